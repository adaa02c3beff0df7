/- The law FnExactNewMeeting of the program: its proof, part 3. -/
import Derived.Test.YtoldjejfninhkaaMFnExactNewMeeting2
import Derived.Test.YtoldjejfninhkaaRows
import Derived.WalkKit
import Derived.ProofKit
import Derived.OpenShut
import Derived.ShutString
import Derived.ChangeOld
import Derived.Below
import Derived.SizedLaws
set_option linter.unusedVariables false
set_option linter.unusedSimpArgs false
namespace Go.Proofs.Ytoldjejfninhkaa.X
open Go.RowKit Go.Proofs.YtoldjejfninhkaaW.PrintWords Go.Proofs.YtoldjejfninhkaaW.PrintLast Go.Proofs.YtoldjejfninhkaaW.PrintMore
section
attribute [local go_sem] max2_int min2_int max_two min_two max_three min_three max_four min_four
def laws_eqClientS.l0 : Nat → List (S51) → List (S51) → Int → Option (Bool)
  | 0, _, _, _ => none
  | k + 1, x0, x1, x5 => if x5 < (x0.length : Int) then (if 0 ≤ x5 then (if x5 < (x1.length : Int) then ((laws_eqClient.f ((rd_T51 x0 x5).f0) ((rd_T51 x0 x5).f1) ((rd_T51 x0 x5).f2) ((rd_T51 x0 x5).f3) ((rd_T51 x0 x5).f4) ((rd_T51 x0 x5).f5) ((rd_T51 x0 x5).f6) ((rd_T51 x0 x5).f7) ((rd_T51 x1 x5).f0) ((rd_T51 x1 x5).f1) ((rd_T51 x1 x5).f2) ((rd_T51 x1 x5).f3) ((rd_T51 x1 x5).f4) ((rd_T51 x1 x5).f5) ((rd_T51 x1 x5).f6) ((rd_T51 x1 x5).f7)).bind fun t103 => (if t103 = true then (laws_eqClientS.l0 k x0 x1 (wrap64 (x5 + 1))) else (some false))) else (none)) else (none)) else (some true)
def laws_eqClientS.f (k : Nat) (l0 : List (S51)) (l1 : List (S51)) : Option (Bool) := if (l0.length : Int) = (l1.length : Int) then (laws_eqClientS.l0 k l0 l1 0) else (some false)
def laws_eqClientS.T6 : Bool × List (List Nat × List Nat) := (true, [([], []), ([], []), ([0, 1], [0, 1]), ([2], [2]), ([], []), ([], []), ([4, 5], [4, 5]), ([6], [6]), ([3, 7], [3, 7]), ([8], [8])])
def laws_eqClientS.B6 : List Nat := [0, 0, 3, 7, 0, 0, 48, 112, 255, 511]
theorem laws_eqClientS.tab6 : rtab .any (opsOf Try.f21 6) = laws_eqClientS.T6 := by kernel_rfl
theorem laws_eqClientS.bits6 : waitsOk laws_eqClientS.T6.2 laws_eqClientS.B6 = true := by kernel_rfl
set_option maxHeartbeats 8000000 in
set_option maxRecDepth 100000 in
theorem laws_eqClientS.calls (k : Nat) (A0 : Option Addr) (c0 : Nat) (l0 : List (S51)) (A1 : Option Addr) (c1 : Nat) (l1 : List (S51)) (r : Bool) (w : World) (hr0 : Kd.C k51 w A0 l0.length l0) (hc0 : l0.length ≤ c0) (hr1 : Kd.C k51 w A1 l1.length l1) (hc1 : l1.length ≤ c1) (h : laws_eqClientS.f k l0 l1 = some r) :
    Calls Try.prog 21 #[.slice A0 l0.length c0, .slice A1 l1.length c1] w fun e w' => e = .returned (.bool r) ∧ Below w.heap.size w w' := by
  have hu51 := Try.underlying51
  have HR0 := mz hr0
  have HC0 := mz hc0
  clear hr0 hc0
  have HR1 := mz hr1
  have HC1 := mz hc1
  clear hr1 hc1
  have HB := mz (Below.refl w.heap.size w)
  have H : (if (l0.length : Int) = (l1.length : Int) then (laws_eqClientS.l0 k l0 l1 0) else (some false)) = some r := h
  clear h
  by_cases c3 : (l0.length : Int) = (l1.length : Int)
  · rw [if_pos c3] at H
    have c3b0 : ((l0.length : Int) == (l1.length : Int)) = true := beq_iff_eq.mpr c3
    have c3b1 : ((l0.length : Int) != (l1.length : Int)) = false := bne_eq_false_iff_eq.mpr c3
    have c3b2 : (l0.length == l1.length) = true := by first | simpa using c3 | (simp at c3 ⊢; omega)
    clear c3
    have H' := mz H
    clear H
    go_enter Try.func21, Try.ntmps21
    go_wp2
    go_loopg [5] k (fun kq v5 w' => ∃ (x5_1 : Int), v5 = .int .i64 x5_1 ∧ Aside0 (laws_eqClientS.l0 kq l0 l1 x5_1 = some r) ∧ Aside0 (kq ≤ k) ∧ Aside0 (Below w.heap.size w w'))
    case atStart => exact ⟨(0), (by first | rfl | (simp; done) | (simp [*]; done)), H', ⟨Nat.le_refl _⟩, ⟨by repeat (first | (with_reducible first | exact HB.out | apply below_alloc | apply pw_below_drewN | apply below_drew1) | exact HB.out)⟩⟩
    case round =>
      clear H'
      try clear c1
      try clear c2
      try clear p2
      try clear c3
      try clear c3b0
      try clear c3b1
      try clear c3b2
      obtain ⟨x5_1, rfl, HA, HK1, HB⟩ := hrel
      cases gk with
      | zero => exact absurd HA.out (by simp [laws_eqClientS.l0])
      | succ k1 =>
        have H := HA.out
        clear HA
        simp only [laws_eqClientS.l0] at H
        by_cases c4 : x5_1 < (l0.length : Int)
        · rw [if_pos c4] at H
          have c4b0 : decide (x5_1 < (l0.length : Int)) = true := decide_eq_true c4
          clear c4
          by_cases c5 : 0 ≤ x5_1
          · rw [if_pos c5] at H
            have c5b0 : decide (0 ≤ x5_1) = true := decide_eq_true c5
            clear c5
            by_cases c6 : x5_1 < (l1.length : Int)
            · rw [if_pos c6] at H
              have c6b0 : decide (x5_1 < (l1.length : Int)) = true := decide_eq_true c6
              clear c6
              replace H := be0_ H
              obtain ⟨t103, A70, H⟩ := H
              replace H : (if t103 = true then (laws_eqClientS.l0 k1 l0 l1 (wrap64 (x5_1 + 1))) else (some false)) = some r := H
              have A7 := mz A70
              clear A70
              by_cases c8 : t103 = true
              · subst c8
                have H1 : (laws_eqClientS.l0 k1 l0 l1 (wrap64 (x5_1 + 1))) = some r := by rw [if_pos rfl] at H; exact H
                clear H
                have H := H1
                clear H1
                have H' := mz H
                clear H
                try go_wp2
                have n0_ := mz (below_drew1 HB.out)
                clear HB
                have HB := n0_
                clear n0_
                have p101 : 0 ≤ (x5_1 : Int) := of_decide_eq_true (by first | (with_reducible assumption) | assumption)
                have q101 : x5_1 < (l0.length : Int) := of_decide_eq_true (by first | (with_reducible assumption) | assumption)
                obtain ⟨ad101, A101_5, c101_5, A101_6, c101_6, e101, hx101_0, hx101_1, hx101_2, hx101_3, hx101_4, hx101_5, hx101_6, hx101_7, hl101_5, hi101_5, hl101_6, hi101_6⟩ := at_T51 HR0.out x5_1 p101 q101
                have hw101_7 := hx101_7
                have hw101_6 := hx101_6
                have hw101_5 := hx101_5
                have hw101_4 := hx101_4
                have hw101_3 := hx101_3
                have hw101_2 := hx101_2
                have hw101_1 := hx101_1
                have hw101_0 := hx101_0
                cases e101
                replace hx101_0 := bc_ HB.out hx101_0
                replace hx101_1 := bc_ HB.out hx101_1
                replace hx101_2 := bc_ HB.out hx101_2
                replace hx101_3 := bc_ HB.out hx101_3
                replace hx101_4 := bc_ HB.out hx101_4
                replace hx101_5 := bc_ HB.out hx101_5
                replace hx101_6 := bc_ HB.out hx101_6
                replace hx101_7 := bc_ HB.out hx101_7
                have HR101_5 := mz hi101_5
                have HC101_5 := mz hl101_5
                clear hi101_5 hl101_5
                have HR101_6 := mz hi101_6
                have HC101_6 := mz hl101_6
                clear hi101_6 hl101_6
                replace p101 := eq_true p101
                replace q101 := eq_true q101
                have p102 : 0 ≤ (x5_1 : Int) := of_decide_eq_true (by first | (with_reducible assumption) | assumption)
                have q102 : x5_1 < (l1.length : Int) := of_decide_eq_true (by first | (with_reducible assumption) | assumption)
                obtain ⟨ad102, A102_5, c102_5, A102_6, c102_6, e102, hx102_0, hx102_1, hx102_2, hx102_3, hx102_4, hx102_5, hx102_6, hx102_7, hl102_5, hi102_5, hl102_6, hi102_6⟩ := at_T51 HR1.out x5_1 p102 q102
                have hw102_7 := hx102_7
                have hw102_6 := hx102_6
                have hw102_5 := hx102_5
                have hw102_4 := hx102_4
                have hw102_3 := hx102_3
                have hw102_2 := hx102_2
                have hw102_1 := hx102_1
                have hw102_0 := hx102_0
                cases e102
                replace hx102_0 := bc_ HB.out hx102_0
                replace hx102_1 := bc_ HB.out hx102_1
                replace hx102_2 := bc_ HB.out hx102_2
                replace hx102_3 := bc_ HB.out hx102_3
                replace hx102_4 := bc_ HB.out hx102_4
                replace hx102_5 := bc_ HB.out hx102_5
                replace hx102_6 := bc_ HB.out hx102_6
                replace hx102_7 := bc_ HB.out hx102_7
                have HR102_5 := mz hi102_5
                have HC102_5 := mz hl102_5
                clear hi102_5 hl102_5
                have HR102_6 := mz hi102_6
                have HC102_6 := mz hl102_6
                clear hi102_6 hl102_6
                replace p102 := eq_true p102
                replace q102 := eq_true q102
                refine start_ (n := 10) (S := fun w' => w'.cell? (ad101.add ((x5_1).toNat * 8)) = some (.int .i64 ((rd_T51 l0 x5_1).f0)) ∧ w'.cell? ⟨(ad101.add ((x5_1).toNat * 8)).block, (ad101.add ((x5_1).toNat * 8)).off + 1, none⟩ = some (.string ((rd_T51 l0 x5_1).f1)) ∧ w'.cell? ⟨(ad101.add ((x5_1).toNat * 8)).block, (ad101.add ((x5_1).toNat * 8)).off + 2, none⟩ = some (.int .i64 ((rd_T51 l0 x5_1).f2)) ∧ w'.cell? ⟨(ad101.add ((x5_1).toNat * 8)).block, (ad101.add ((x5_1).toNat * 8)).off + 3, none⟩ = some (.int .i64 ((rd_T51 l0 x5_1).f3)) ∧ w'.cell? ⟨(ad101.add ((x5_1).toNat * 8)).block, (ad101.add ((x5_1).toNat * 8)).off + 4, none⟩ = some (.bool ((rd_T51 l0 x5_1).f4)) ∧ w'.cell? ⟨(ad101.add ((x5_1).toNat * 8)).block, (ad101.add ((x5_1).toNat * 8)).off + 5, none⟩ = some (.slice A101_5 ((rd_T51 l0 x5_1).f5).length c101_5) ∧ w'.cell? ⟨(ad101.add ((x5_1).toNat * 8)).block, (ad101.add ((x5_1).toNat * 8)).off + 6, none⟩ = some (.slice A101_6 ((rd_T51 l0 x5_1).f6).length c101_6) ∧ w'.cell? ⟨(ad101.add ((x5_1).toNat * 8)).block, (ad101.add ((x5_1).toNat * 8)).off + 7, none⟩ = some (.bool ((rd_T51 l0 x5_1).f7)) ∧ w'.cell? (ad102.add ((x5_1).toNat * 8)) = some (.int .i64 ((rd_T51 l1 x5_1).f0)) ∧ w'.cell? ⟨(ad102.add ((x5_1).toNat * 8)).block, (ad102.add ((x5_1).toNat * 8)).off + 1, none⟩ = some (.string ((rd_T51 l1 x5_1).f1)) ∧ w'.cell? ⟨(ad102.add ((x5_1).toNat * 8)).block, (ad102.add ((x5_1).toNat * 8)).off + 2, none⟩ = some (.int .i64 ((rd_T51 l1 x5_1).f2)) ∧ w'.cell? ⟨(ad102.add ((x5_1).toNat * 8)).block, (ad102.add ((x5_1).toNat * 8)).off + 3, none⟩ = some (.int .i64 ((rd_T51 l1 x5_1).f3)) ∧ w'.cell? ⟨(ad102.add ((x5_1).toNat * 8)).block, (ad102.add ((x5_1).toNat * 8)).off + 4, none⟩ = some (.bool ((rd_T51 l1 x5_1).f4)) ∧ w'.cell? ⟨(ad102.add ((x5_1).toNat * 8)).block, (ad102.add ((x5_1).toNat * 8)).off + 5, none⟩ = some (.slice A102_5 ((rd_T51 l1 x5_1).f5).length c102_5) ∧ w'.cell? ⟨(ad102.add ((x5_1).toNat * 8)).block, (ad102.add ((x5_1).toNat * 8)).off + 6, none⟩ = some (.slice A102_6 ((rd_T51 l1 x5_1).f6).length c102_6) ∧ w'.cell? ⟨(ad102.add ((x5_1).toNat * 8)).block, (ad102.add ((x5_1).toNat * 8)).off + 7, none⟩ = some (.bool ((rd_T51 l1 x5_1).f7))) (ds := []) #[false, false, false, false, false, false, false, false, false, false] (by kernel_rfl) rfl rfl ⟨(bc_ HB.out hw101_0 :), (bc_ HB.out hw101_1 :), (bc_ HB.out hw101_2 :), (bc_ HB.out hw101_3 :), (bc_ HB.out hw101_4 :), (bc_ HB.out hw101_5 :), (bc_ HB.out hw101_6 :), (bc_ HB.out hw101_7 :), (bc_ HB.out hw102_0 :), (bc_ HB.out hw102_1 :), (bc_ HB.out hw102_2 :), (bc_ HB.out hw102_3 :), (bc_ HB.out hw102_4 :), (bc_ HB.out hw102_5 :), (bc_ HB.out hw102_6 :), (bc_ HB.out hw102_7 :)⟩ (fun hHeld => ?_); refine with_tabW laws_eqClientS.tab6 laws_eqClientS.bits6 (fun HT_ HW_ => ?_)
                generalize wr.drew = w9 at HB HR101_5 HR101_6 HR102_5 HR102_6 hx101_0 hx101_1 hx101_2 hx101_3 hx101_4 hx101_5 hx101_6 hx101_7 hx102_0 hx102_1 hx102_2 hx102_3 hx102_4 hx102_5 hx102_6 hx102_7 hHeld ⊢
                refine pure_ (i := 0) (N := some 17) (v := ?_) (a' := ?_) #[true, false, false, false, false, false, false, false, false, false] rfl rfl (any_of HT_.out (by kernel_rfl)) (fun _ _ _ h => h) (Or.inl ⟨by rfl, ?_⟩) ?_ ?_
                rotate_left
                · intro w'
                  go_simp
                  with_reducible rfl
                rotate_left
                · simp only [Act.put, List.setIfInBounds_toArray, List.set_cons_zero, List.set_cons_succ, i64_w, i32_w]
                  rfl
                refine pure_ (i := 1) (N := some 18) (v := ?_) (a' := ?_) #[true, true, false, false, false, false, false, false, false, false] rfl rfl (any_of HT_.out (by kernel_rfl)) (fun _ _ _ h => h) (Or.inl ⟨by rfl, ?_⟩) ?_ ?_
                rotate_left
                · intro w'
                  go_simp
                  with_reducible rfl
                rotate_left
                · simp only [Act.put, List.setIfInBounds_toArray, List.set_cons_zero, List.set_cons_succ, i64_w, i32_w]
                  rfl
                refine pure_ (i := 2) (N := some 19) (v := ?_) (a' := ?_) #[true, true, true, false, false, false, false, false, false, false] rfl rfl (any_of HT_.out (by kernel_rfl)) (fun _ _ _ h => h) (Or.inl ⟨by rfl, ?_⟩) ?_ ?_
                rotate_left
                · intro w'
                  go_simp
                  with_reducible rfl
                rotate_left
                · simp only [Act.put, List.setIfInBounds_toArray, List.set_cons_zero, List.set_cons_succ, i64_w, i32_w]
                  rfl
                refine pure_ (i := 4) (N := some 21) (v := ?_) (a' := ?_) #[true, true, true, false, true, false, false, false, false, false] rfl rfl (any_of HT_.out (by kernel_rfl)) (fun _ _ _ h => h) (Or.inl ⟨by rfl, ?_⟩) ?_ ?_
                rotate_left
                · intro w'
                  go_simp
                  with_reducible rfl
                rotate_left
                · simp only [Act.put, List.setIfInBounds_toArray, List.set_cons_zero, List.set_cons_succ, i64_w, i32_w]
                  rfl
                refine pure_ (i := 5) (N := some 22) (v := ?_) (a' := ?_) #[true, true, true, false, true, true, false, false, false, false] rfl rfl (any_of HT_.out (by kernel_rfl)) (fun _ _ _ h => h) (Or.inl ⟨by rfl, ?_⟩) ?_ ?_
                rotate_left
                · intro w'
                  go_simp
                  with_reducible rfl
                rotate_left
                · simp only [Act.put, List.setIfInBounds_toArray, List.set_cons_zero, List.set_cons_succ, i64_w, i32_w]
                  rfl
                refine pure_ (i := 6) (N := some 23) (v := ?_) (a' := ?_) #[true, true, true, false, true, true, true, false, false, false] rfl rfl (any_of HT_.out (by kernel_rfl)) (fun _ _ _ h => h) (Or.inl ⟨by rfl, ?_⟩) ?_ ?_
                rotate_left
                · intro w'
                  go_simp
                  with_reducible rfl
                rotate_left
                · simp only [Act.put, List.setIfInBounds_toArray, List.set_cons_zero, List.set_cons_succ, i64_w, i32_w]
                  rfl
                refine take_ (i := 3) (N := some 20) (v := ?_) (a' := ?_) #[true, true, true, true, true, true, true, false, false, false] rfl rfl (take_ofW HT_.out HW_.out (by kernel_rfl)) (fun _ _ _ h => h) (Or.inl ⟨by rfl, ?_⟩) hHeld ?_ ?_
                rotate_left
                · rintro w' ⟨s0, s1, s2, s3, s4, s5, s6, s7, s8, s9, s10, s11, s12, s13, s14, s15⟩
                  go_simp
                  with_reducible rfl
                rotate_left
                · simp only [Act.put, List.setIfInBounds_toArray, List.set_cons_zero, List.set_cons_succ, i64_w, i32_w]
                  rfl
                refine take_ (i := 7) (N := some 24) (v := ?_) (a' := ?_) #[true, true, true, true, true, true, true, true, false, false] rfl rfl (take_ofW HT_.out HW_.out (by kernel_rfl)) (fun _ _ _ h => h) (Or.inl ⟨by rfl, ?_⟩) hHeld ?_ ?_
                rotate_left
                · rintro w' ⟨s0, s1, s2, s3, s4, s5, s6, s7, s8, s9, s10, s11, s12, s13, s14, s15⟩
                  go_simp
                  with_reducible rfl
                rotate_left
                · simp only [Act.put, List.setIfInBounds_toArray, List.set_cons_zero, List.set_cons_succ, i64_w, i32_w]
                  rfl
                refine one_ (i := 8) (N := some 25) #[true, true, true, true, true, true, true, true, true, false] rfl rfl (one_of HT_.out (by kernel_rfl)) (by decide) (fun K hK => ?_)
                refine goes_ Try.func42 (by kernel_rfl) rfl #[.agg #[.int .i64 ((rd_T51 l0 x5_1).f0), .string ((rd_T51 l0 x5_1).f1), .int .i64 ((rd_T51 l0 x5_1).f2), .int .i64 ((rd_T51 l0 x5_1).f3), .bool ((rd_T51 l0 x5_1).f4), .slice A101_5 ((rd_T51 l0 x5_1).f5).length c101_5, .slice A101_6 ((rd_T51 l0 x5_1).f6).length c101_6, .bool ((rd_T51 l0 x5_1).f7)], .agg #[.int .i64 ((rd_T51 l1 x5_1).f0), .string ((rd_T51 l1 x5_1).f1), .int .i64 ((rd_T51 l1 x5_1).f2), .int .i64 ((rd_T51 l1 x5_1).f3), .bool ((rd_T51 l1 x5_1).f4), .slice A102_5 ((rd_T51 l1 x5_1).f5).length c102_5, .slice A102_6 ((rd_T51 l1 x5_1).f6).length c102_6, .bool ((rd_T51 l1 x5_1).f7)]] (by rfl) rfl rfl (by (try simp only [List.map_toArray, List.map_cons, List.map_nil]); first | done | rfl | (simp only [List.length_drop, List.length_take]; rfl)) ?_
                with_reducible refine (laws_eqClient.calls ((rd_T51 l0 x5_1).f0) ((rd_T51 l0 x5_1).f1) ((rd_T51 l0 x5_1).f2) ((rd_T51 l0 x5_1).f3) ((rd_T51 l0 x5_1).f4) _ _ ((rd_T51 l0 x5_1).f5) _ _ ((rd_T51 l0 x5_1).f6) ((rd_T51 l0 x5_1).f7) ((rd_T51 l1 x5_1).f0) ((rd_T51 l1 x5_1).f1) ((rd_T51 l1 x5_1).f2) ((rd_T51 l1 x5_1).f3) ((rd_T51 l1 x5_1).f4) _ _ ((rd_T51 l1 x5_1).f5) _ _ ((rd_T51 l1 x5_1).f6) ((rd_T51 l1 x5_1).f7) true _ ?side1 ?side2 ?side3 ?side4 ?side5 ?side6 ?side7 ?side8 A7.out).mono ?_
                (case side1 => repeat (first | exact (Kd.C_below HR101_5.out HB.out) | (with_reducible refine Kd.C_alloc ?_ _) | (with_reducible refine Kd.C_drewN ?_ _) | (with_reducible refine Kd.C_drew ?_)))
                (case side2 => exact HC101_5.out)
                (case side3 => repeat (first | exact (Kd.C_below HR101_6.out HB.out) | (with_reducible refine Kd.C_alloc ?_ _) | (with_reducible refine Kd.C_drewN ?_ _) | (with_reducible refine Kd.C_drew ?_)))
                (case side4 => exact HC101_6.out)
                (case side5 => repeat (first | exact (Kd.C_below HR102_5.out HB.out) | (with_reducible refine Kd.C_alloc ?_ _) | (with_reducible refine Kd.C_drewN ?_ _) | (with_reducible refine Kd.C_drew ?_)))
                (case side6 => exact HC102_5.out)
                (case side7 => repeat (first | exact (Kd.C_below HR102_6.out HB.out) | (with_reducible refine Kd.C_alloc ?_ _) | (with_reducible refine Kd.C_drewN ?_ _) | (with_reducible refine Kd.C_drew ?_)))
                (case side8 => exact HC102_6.out)
                rintro e w10 ⟨rfl, hb⟩
                refine ⟨_, rfl, ?_⟩
                have n0_ := mz (below_step (by repeat (first | (with_reducible first | exact HB.out | apply below_alloc | apply pw_below_drewN | apply below_drew1) | exact HB.out)) hb)
                clear HB
                have HB := n0_
                clear n0_
                (try clear hb)
                (try clear hb2)
                (try clear hk)
                (try clear hi)
                refine hK.out _ _ ⟨(bc_ HB.out hw101_0 :), (bc_ HB.out hw101_1 :), (bc_ HB.out hw101_2 :), (bc_ HB.out hw101_3 :), (bc_ HB.out hw101_4 :), (bc_ HB.out hw101_5 :), (bc_ HB.out hw101_6 :), (bc_ HB.out hw101_7 :), (bc_ HB.out hw102_0 :), (bc_ HB.out hw102_1 :), (bc_ HB.out hw102_2 :), (bc_ HB.out hw102_3 :), (bc_ HB.out hw102_4 :), (bc_ HB.out hw102_5 :), (bc_ HB.out hw102_6 :), (bc_ HB.out hw102_7 :)⟩ (fun hHeld => ?_)
                clear hK K
                refine norm_ (a' := ?_) ?_ ?_
                rotate_left
                · show Act.put _ (some 25) _ = _
                  simp only [Act.put, List.setIfInBounds_toArray, List.set_cons_zero, List.set_cons_succ, i64_w, i32_w]
                  rfl
                refine pure_ (i := 9) (N := some 26) (v := ?_) (a' := ?_) #[true, true, true, true, true, true, true, true, true, true] rfl rfl (any_of HT_.out (by kernel_rfl)) (fun _ _ _ h => h) (Or.inl ⟨by rfl, ?_⟩) ?_ ?_
                rotate_left
                · intro w'
                  go_simp
                  with_reducible rfl
                rotate_left
                · simp only [Act.put, List.setIfInBounds_toArray, List.set_cons_zero, List.set_cons_succ, i64_w, i32_w]
                  rfl
                refine done_ (done_of HT_.out (by kernel_rfl)) ?_
                try go_wp2
                go_roundg k1
                case measure => have := HK1.out; omega
                case rel => exact ⟨(wrap64 (x5_1 + 1)), (by first | rfl | (simp; done) | (simp [*]; done)), H', ⟨by have := HK1.out; omega⟩, ⟨by repeat (first | (with_reducible first | exact HB.out | apply below_alloc | apply pw_below_drewN | apply below_drew1) | exact HB.out)⟩⟩
              · replace c8 := Bool.eq_false_iff.mpr c8
                subst c8
                have H1 : (some false) = some r := by rw [if_neg (show ¬ (false = true) by decide)] at H; exact H
                clear H
                have H := H1
                clear H1
                obtain rfl := Option.some.inj H
                try go_wp2
                have n0_ := mz (below_drew1 HB.out)
                clear HB
                have HB := n0_
                clear n0_
                have p101 : 0 ≤ (x5_1 : Int) := of_decide_eq_true (by first | (with_reducible assumption) | assumption)
                have q101 : x5_1 < (l0.length : Int) := of_decide_eq_true (by first | (with_reducible assumption) | assumption)
                obtain ⟨ad101, A101_5, c101_5, A101_6, c101_6, e101, hx101_0, hx101_1, hx101_2, hx101_3, hx101_4, hx101_5, hx101_6, hx101_7, hl101_5, hi101_5, hl101_6, hi101_6⟩ := at_T51 HR0.out x5_1 p101 q101
                have hw101_7 := hx101_7
                have hw101_6 := hx101_6
                have hw101_5 := hx101_5
                have hw101_4 := hx101_4
                have hw101_3 := hx101_3
                have hw101_2 := hx101_2
                have hw101_1 := hx101_1
                have hw101_0 := hx101_0
                cases e101
                replace hx101_0 := bc_ HB.out hx101_0
                replace hx101_1 := bc_ HB.out hx101_1
                replace hx101_2 := bc_ HB.out hx101_2
                replace hx101_3 := bc_ HB.out hx101_3
                replace hx101_4 := bc_ HB.out hx101_4
                replace hx101_5 := bc_ HB.out hx101_5
                replace hx101_6 := bc_ HB.out hx101_6
                replace hx101_7 := bc_ HB.out hx101_7
                have HR101_5 := mz hi101_5
                have HC101_5 := mz hl101_5
                clear hi101_5 hl101_5
                have HR101_6 := mz hi101_6
                have HC101_6 := mz hl101_6
                clear hi101_6 hl101_6
                replace p101 := eq_true p101
                replace q101 := eq_true q101
                have p102 : 0 ≤ (x5_1 : Int) := of_decide_eq_true (by first | (with_reducible assumption) | assumption)
                have q102 : x5_1 < (l1.length : Int) := of_decide_eq_true (by first | (with_reducible assumption) | assumption)
                obtain ⟨ad102, A102_5, c102_5, A102_6, c102_6, e102, hx102_0, hx102_1, hx102_2, hx102_3, hx102_4, hx102_5, hx102_6, hx102_7, hl102_5, hi102_5, hl102_6, hi102_6⟩ := at_T51 HR1.out x5_1 p102 q102
                have hw102_7 := hx102_7
                have hw102_6 := hx102_6
                have hw102_5 := hx102_5
                have hw102_4 := hx102_4
                have hw102_3 := hx102_3
                have hw102_2 := hx102_2
                have hw102_1 := hx102_1
                have hw102_0 := hx102_0
                cases e102
                replace hx102_0 := bc_ HB.out hx102_0
                replace hx102_1 := bc_ HB.out hx102_1
                replace hx102_2 := bc_ HB.out hx102_2
                replace hx102_3 := bc_ HB.out hx102_3
                replace hx102_4 := bc_ HB.out hx102_4
                replace hx102_5 := bc_ HB.out hx102_5
                replace hx102_6 := bc_ HB.out hx102_6
                replace hx102_7 := bc_ HB.out hx102_7
                have HR102_5 := mz hi102_5
                have HC102_5 := mz hl102_5
                clear hi102_5 hl102_5
                have HR102_6 := mz hi102_6
                have HC102_6 := mz hl102_6
                clear hi102_6 hl102_6
                replace p102 := eq_true p102
                replace q102 := eq_true q102
                refine start_ (n := 10) (S := fun w' => w'.cell? (ad101.add ((x5_1).toNat * 8)) = some (.int .i64 ((rd_T51 l0 x5_1).f0)) ∧ w'.cell? ⟨(ad101.add ((x5_1).toNat * 8)).block, (ad101.add ((x5_1).toNat * 8)).off + 1, none⟩ = some (.string ((rd_T51 l0 x5_1).f1)) ∧ w'.cell? ⟨(ad101.add ((x5_1).toNat * 8)).block, (ad101.add ((x5_1).toNat * 8)).off + 2, none⟩ = some (.int .i64 ((rd_T51 l0 x5_1).f2)) ∧ w'.cell? ⟨(ad101.add ((x5_1).toNat * 8)).block, (ad101.add ((x5_1).toNat * 8)).off + 3, none⟩ = some (.int .i64 ((rd_T51 l0 x5_1).f3)) ∧ w'.cell? ⟨(ad101.add ((x5_1).toNat * 8)).block, (ad101.add ((x5_1).toNat * 8)).off + 4, none⟩ = some (.bool ((rd_T51 l0 x5_1).f4)) ∧ w'.cell? ⟨(ad101.add ((x5_1).toNat * 8)).block, (ad101.add ((x5_1).toNat * 8)).off + 5, none⟩ = some (.slice A101_5 ((rd_T51 l0 x5_1).f5).length c101_5) ∧ w'.cell? ⟨(ad101.add ((x5_1).toNat * 8)).block, (ad101.add ((x5_1).toNat * 8)).off + 6, none⟩ = some (.slice A101_6 ((rd_T51 l0 x5_1).f6).length c101_6) ∧ w'.cell? ⟨(ad101.add ((x5_1).toNat * 8)).block, (ad101.add ((x5_1).toNat * 8)).off + 7, none⟩ = some (.bool ((rd_T51 l0 x5_1).f7)) ∧ w'.cell? (ad102.add ((x5_1).toNat * 8)) = some (.int .i64 ((rd_T51 l1 x5_1).f0)) ∧ w'.cell? ⟨(ad102.add ((x5_1).toNat * 8)).block, (ad102.add ((x5_1).toNat * 8)).off + 1, none⟩ = some (.string ((rd_T51 l1 x5_1).f1)) ∧ w'.cell? ⟨(ad102.add ((x5_1).toNat * 8)).block, (ad102.add ((x5_1).toNat * 8)).off + 2, none⟩ = some (.int .i64 ((rd_T51 l1 x5_1).f2)) ∧ w'.cell? ⟨(ad102.add ((x5_1).toNat * 8)).block, (ad102.add ((x5_1).toNat * 8)).off + 3, none⟩ = some (.int .i64 ((rd_T51 l1 x5_1).f3)) ∧ w'.cell? ⟨(ad102.add ((x5_1).toNat * 8)).block, (ad102.add ((x5_1).toNat * 8)).off + 4, none⟩ = some (.bool ((rd_T51 l1 x5_1).f4)) ∧ w'.cell? ⟨(ad102.add ((x5_1).toNat * 8)).block, (ad102.add ((x5_1).toNat * 8)).off + 5, none⟩ = some (.slice A102_5 ((rd_T51 l1 x5_1).f5).length c102_5) ∧ w'.cell? ⟨(ad102.add ((x5_1).toNat * 8)).block, (ad102.add ((x5_1).toNat * 8)).off + 6, none⟩ = some (.slice A102_6 ((rd_T51 l1 x5_1).f6).length c102_6) ∧ w'.cell? ⟨(ad102.add ((x5_1).toNat * 8)).block, (ad102.add ((x5_1).toNat * 8)).off + 7, none⟩ = some (.bool ((rd_T51 l1 x5_1).f7))) (ds := []) #[false, false, false, false, false, false, false, false, false, false] (by kernel_rfl) rfl rfl ⟨(bc_ HB.out hw101_0 :), (bc_ HB.out hw101_1 :), (bc_ HB.out hw101_2 :), (bc_ HB.out hw101_3 :), (bc_ HB.out hw101_4 :), (bc_ HB.out hw101_5 :), (bc_ HB.out hw101_6 :), (bc_ HB.out hw101_7 :), (bc_ HB.out hw102_0 :), (bc_ HB.out hw102_1 :), (bc_ HB.out hw102_2 :), (bc_ HB.out hw102_3 :), (bc_ HB.out hw102_4 :), (bc_ HB.out hw102_5 :), (bc_ HB.out hw102_6 :), (bc_ HB.out hw102_7 :)⟩ (fun hHeld => ?_); refine with_tabW laws_eqClientS.tab6 laws_eqClientS.bits6 (fun HT_ HW_ => ?_)
                generalize wr.drew = w11 at HB HR101_5 HR101_6 HR102_5 HR102_6 hx101_0 hx101_1 hx101_2 hx101_3 hx101_4 hx101_5 hx101_6 hx101_7 hx102_0 hx102_1 hx102_2 hx102_3 hx102_4 hx102_5 hx102_6 hx102_7 hHeld ⊢
                refine pure_ (i := 0) (N := some 17) (v := ?_) (a' := ?_) #[true, false, false, false, false, false, false, false, false, false] rfl rfl (any_of HT_.out (by kernel_rfl)) (fun _ _ _ h => h) (Or.inl ⟨by rfl, ?_⟩) ?_ ?_
                rotate_left
                · intro w'
                  go_simp
                  with_reducible rfl
                rotate_left
                · simp only [Act.put, List.setIfInBounds_toArray, List.set_cons_zero, List.set_cons_succ, i64_w, i32_w]
                  rfl
                refine pure_ (i := 1) (N := some 18) (v := ?_) (a' := ?_) #[true, true, false, false, false, false, false, false, false, false] rfl rfl (any_of HT_.out (by kernel_rfl)) (fun _ _ _ h => h) (Or.inl ⟨by rfl, ?_⟩) ?_ ?_
                rotate_left
                · intro w'
                  go_simp
                  with_reducible rfl
                rotate_left
                · simp only [Act.put, List.setIfInBounds_toArray, List.set_cons_zero, List.set_cons_succ, i64_w, i32_w]
                  rfl
                refine pure_ (i := 2) (N := some 19) (v := ?_) (a' := ?_) #[true, true, true, false, false, false, false, false, false, false] rfl rfl (any_of HT_.out (by kernel_rfl)) (fun _ _ _ h => h) (Or.inl ⟨by rfl, ?_⟩) ?_ ?_
                rotate_left
                · intro w'
                  go_simp
                  with_reducible rfl
                rotate_left
                · simp only [Act.put, List.setIfInBounds_toArray, List.set_cons_zero, List.set_cons_succ, i64_w, i32_w]
                  rfl
                refine pure_ (i := 4) (N := some 21) (v := ?_) (a' := ?_) #[true, true, true, false, true, false, false, false, false, false] rfl rfl (any_of HT_.out (by kernel_rfl)) (fun _ _ _ h => h) (Or.inl ⟨by rfl, ?_⟩) ?_ ?_
                rotate_left
                · intro w'
                  go_simp
                  with_reducible rfl
                rotate_left
                · simp only [Act.put, List.setIfInBounds_toArray, List.set_cons_zero, List.set_cons_succ, i64_w, i32_w]
                  rfl
                refine pure_ (i := 5) (N := some 22) (v := ?_) (a' := ?_) #[true, true, true, false, true, true, false, false, false, false] rfl rfl (any_of HT_.out (by kernel_rfl)) (fun _ _ _ h => h) (Or.inl ⟨by rfl, ?_⟩) ?_ ?_
                rotate_left
                · intro w'
                  go_simp
                  with_reducible rfl
                rotate_left
                · simp only [Act.put, List.setIfInBounds_toArray, List.set_cons_zero, List.set_cons_succ, i64_w, i32_w]
                  rfl
                refine pure_ (i := 6) (N := some 23) (v := ?_) (a' := ?_) #[true, true, true, false, true, true, true, false, false, false] rfl rfl (any_of HT_.out (by kernel_rfl)) (fun _ _ _ h => h) (Or.inl ⟨by rfl, ?_⟩) ?_ ?_
                rotate_left
                · intro w'
                  go_simp
                  with_reducible rfl
                rotate_left
                · simp only [Act.put, List.setIfInBounds_toArray, List.set_cons_zero, List.set_cons_succ, i64_w, i32_w]
                  rfl
                refine take_ (i := 3) (N := some 20) (v := ?_) (a' := ?_) #[true, true, true, true, true, true, true, false, false, false] rfl rfl (take_ofW HT_.out HW_.out (by kernel_rfl)) (fun _ _ _ h => h) (Or.inl ⟨by rfl, ?_⟩) hHeld ?_ ?_
                rotate_left
                · rintro w' ⟨s0, s1, s2, s3, s4, s5, s6, s7, s8, s9, s10, s11, s12, s13, s14, s15⟩
                  go_simp
                  with_reducible rfl
                rotate_left
                · simp only [Act.put, List.setIfInBounds_toArray, List.set_cons_zero, List.set_cons_succ, i64_w, i32_w]
                  rfl
                refine take_ (i := 7) (N := some 24) (v := ?_) (a' := ?_) #[true, true, true, true, true, true, true, true, false, false] rfl rfl (take_ofW HT_.out HW_.out (by kernel_rfl)) (fun _ _ _ h => h) (Or.inl ⟨by rfl, ?_⟩) hHeld ?_ ?_
                rotate_left
                · rintro w' ⟨s0, s1, s2, s3, s4, s5, s6, s7, s8, s9, s10, s11, s12, s13, s14, s15⟩
                  go_simp
                  with_reducible rfl
                rotate_left
                · simp only [Act.put, List.setIfInBounds_toArray, List.set_cons_zero, List.set_cons_succ, i64_w, i32_w]
                  rfl
                refine one_ (i := 8) (N := some 25) #[true, true, true, true, true, true, true, true, true, false] rfl rfl (one_of HT_.out (by kernel_rfl)) (by decide) (fun K hK => ?_)
                refine goes_ Try.func42 (by kernel_rfl) rfl #[.agg #[.int .i64 ((rd_T51 l0 x5_1).f0), .string ((rd_T51 l0 x5_1).f1), .int .i64 ((rd_T51 l0 x5_1).f2), .int .i64 ((rd_T51 l0 x5_1).f3), .bool ((rd_T51 l0 x5_1).f4), .slice A101_5 ((rd_T51 l0 x5_1).f5).length c101_5, .slice A101_6 ((rd_T51 l0 x5_1).f6).length c101_6, .bool ((rd_T51 l0 x5_1).f7)], .agg #[.int .i64 ((rd_T51 l1 x5_1).f0), .string ((rd_T51 l1 x5_1).f1), .int .i64 ((rd_T51 l1 x5_1).f2), .int .i64 ((rd_T51 l1 x5_1).f3), .bool ((rd_T51 l1 x5_1).f4), .slice A102_5 ((rd_T51 l1 x5_1).f5).length c102_5, .slice A102_6 ((rd_T51 l1 x5_1).f6).length c102_6, .bool ((rd_T51 l1 x5_1).f7)]] (by rfl) rfl rfl (by (try simp only [List.map_toArray, List.map_cons, List.map_nil]); first | done | rfl | (simp only [List.length_drop, List.length_take]; rfl)) ?_
                with_reducible refine (laws_eqClient.calls ((rd_T51 l0 x5_1).f0) ((rd_T51 l0 x5_1).f1) ((rd_T51 l0 x5_1).f2) ((rd_T51 l0 x5_1).f3) ((rd_T51 l0 x5_1).f4) _ _ ((rd_T51 l0 x5_1).f5) _ _ ((rd_T51 l0 x5_1).f6) ((rd_T51 l0 x5_1).f7) ((rd_T51 l1 x5_1).f0) ((rd_T51 l1 x5_1).f1) ((rd_T51 l1 x5_1).f2) ((rd_T51 l1 x5_1).f3) ((rd_T51 l1 x5_1).f4) _ _ ((rd_T51 l1 x5_1).f5) _ _ ((rd_T51 l1 x5_1).f6) ((rd_T51 l1 x5_1).f7) false _ ?side1 ?side2 ?side3 ?side4 ?side5 ?side6 ?side7 ?side8 A7.out).mono ?_
                (case side1 => repeat (first | exact (Kd.C_below HR101_5.out HB.out) | (with_reducible refine Kd.C_alloc ?_ _) | (with_reducible refine Kd.C_drewN ?_ _) | (with_reducible refine Kd.C_drew ?_)))
                (case side2 => exact HC101_5.out)
                (case side3 => repeat (first | exact (Kd.C_below HR101_6.out HB.out) | (with_reducible refine Kd.C_alloc ?_ _) | (with_reducible refine Kd.C_drewN ?_ _) | (with_reducible refine Kd.C_drew ?_)))
                (case side4 => exact HC101_6.out)
                (case side5 => repeat (first | exact (Kd.C_below HR102_5.out HB.out) | (with_reducible refine Kd.C_alloc ?_ _) | (with_reducible refine Kd.C_drewN ?_ _) | (with_reducible refine Kd.C_drew ?_)))
                (case side6 => exact HC102_5.out)
                (case side7 => repeat (first | exact (Kd.C_below HR102_6.out HB.out) | (with_reducible refine Kd.C_alloc ?_ _) | (with_reducible refine Kd.C_drewN ?_ _) | (with_reducible refine Kd.C_drew ?_)))
                (case side8 => exact HC102_6.out)
                rintro e w12 ⟨rfl, hb⟩
                refine ⟨_, rfl, ?_⟩
                have n0_ := mz (below_step (by repeat (first | (with_reducible first | exact HB.out | apply below_alloc | apply pw_below_drewN | apply below_drew1) | exact HB.out)) hb)
                clear HB
                have HB := n0_
                clear n0_
                (try clear hb)
                (try clear hb2)
                (try clear hk)
                (try clear hi)
                refine hK.out _ _ ⟨(bc_ HB.out hw101_0 :), (bc_ HB.out hw101_1 :), (bc_ HB.out hw101_2 :), (bc_ HB.out hw101_3 :), (bc_ HB.out hw101_4 :), (bc_ HB.out hw101_5 :), (bc_ HB.out hw101_6 :), (bc_ HB.out hw101_7 :), (bc_ HB.out hw102_0 :), (bc_ HB.out hw102_1 :), (bc_ HB.out hw102_2 :), (bc_ HB.out hw102_3 :), (bc_ HB.out hw102_4 :), (bc_ HB.out hw102_5 :), (bc_ HB.out hw102_6 :), (bc_ HB.out hw102_7 :)⟩ (fun hHeld => ?_)
                clear hK K
                refine norm_ (a' := ?_) ?_ ?_
                rotate_left
                · show Act.put _ (some 25) _ = _
                  simp only [Act.put, List.setIfInBounds_toArray, List.set_cons_zero, List.set_cons_succ, i64_w, i32_w]
                  rfl
                refine pure_ (i := 9) (N := some 26) (v := ?_) (a' := ?_) #[true, true, true, true, true, true, true, true, true, true] rfl rfl (any_of HT_.out (by kernel_rfl)) (fun _ _ _ h => h) (Or.inl ⟨by rfl, ?_⟩) ?_ ?_
                rotate_left
                · intro w'
                  go_simp
                  with_reducible rfl
                rotate_left
                · simp only [Act.put, List.setIfInBounds_toArray, List.set_cons_zero, List.set_cons_succ, i64_w, i32_w]
                  rfl
                refine done_ (done_of HT_.out (by kernel_rfl)) ?_
                try go_wp2
                go_ret
                exact ⟨by first | rfl | (simp [errW_none, errW_some] <;> rfl) | (simp [*, errW_none, errW_some] <;> rfl), by repeat (first | (with_reducible first | exact HB.out | apply below_alloc | apply pw_below_drewN | apply below_drew1) | exact HB.out)⟩
            · rw [if_neg c6] at H
              exact absurd H (by simp)
          · rw [if_neg c5] at H
            exact absurd H (by simp)
        · rw [if_neg c4] at H
          have c4b0 : decide (x5_1 < (l0.length : Int)) = false := decide_eq_false c4
          clear c4
          obtain rfl := Option.some.inj H
          go_wp2
          go_ret
          exact ⟨by first | rfl | (simp [errW_none, errW_some] <;> rfl) | (simp [*, errW_none, errW_some] <;> rfl), by repeat (first | (with_reducible first | exact HB.out | apply below_alloc | apply pw_below_drewN | apply below_drew1) | exact HB.out)⟩
  · rw [if_neg c3] at H
    have c3b0 : ((l0.length : Int) == (l1.length : Int)) = false := beq_eq_false_iff_ne.mpr c3
    have c3b1 : ((l0.length : Int) != (l1.length : Int)) = true := bne_iff_ne.mpr c3
    have c3b2 : (l0.length == l1.length) = false := by first | simpa using c3 | (simp at c3 ⊢; omega)
    obtain rfl := Option.some.inj H
    go_enter Try.func21, Try.ntmps21
    go_wp2
    go_ret
    exact ⟨by first | rfl | (simp [errW_none, errW_some] <;> rfl) | (simp [*, errW_none, errW_some] <;> rfl), by repeat (first | (with_reducible first | exact HB.out | apply below_alloc | apply pw_below_drewN | apply below_drew1) | exact HB.out)⟩
end
section
attribute [local go_sem] max2_int min2_int max_two min_two max_three min_three max_four min_four
def laws_eqMeeting.f (k : Nat) (a0_0 : ByteArray) (a0_1 : ByteArray) (l0_2 : List (S67)) (l0_3 : List (S51)) (a1_0 : ByteArray) (a1_1 : ByteArray) (l1_2 : List (S67)) (l1_3 : List (S51)) : Option (Bool) := (laws_eqServer.f k a0_0 a0_1 l0_2 a1_0 a1_1 l1_2).bind fun t103 => (if t103 = true then ((laws_eqClientS.f k l0_3 l1_3).bind fun t104 => (if t104 = true then (some true) else (some false))) else (some false))
set_option maxHeartbeats 8000000 in
set_option maxRecDepth 100000 in
theorem laws_eqMeeting.calls (k : Nat) (a0_0 : ByteArray) (a0_1 : ByteArray) (A0_2 : Option Addr) (c0_2 : Nat) (l0_2 : List (S67)) (A0_3 : Option Addr) (c0_3 : Nat) (l0_3 : List (S51)) (a1_0 : ByteArray) (a1_1 : ByteArray) (A1_2 : Option Addr) (c1_2 : Nat) (l1_2 : List (S67)) (A1_3 : Option Addr) (c1_3 : Nat) (l1_3 : List (S51)) (r : Bool) (w : World) (hr0_2 : Kd.C k67 w A0_2 l0_2.length l0_2) (hc0_2 : l0_2.length ≤ c0_2) (hr0_3 : Kd.C k51 w A0_3 l0_3.length l0_3) (hc0_3 : l0_3.length ≤ c0_3) (hr1_2 : Kd.C k67 w A1_2 l1_2.length l1_2) (hc1_2 : l1_2.length ≤ c1_2) (hr1_3 : Kd.C k51 w A1_3 l1_3.length l1_3) (hc1_3 : l1_3.length ≤ c1_3) (h : laws_eqMeeting.f k a0_0 a0_1 l0_2 l0_3 a1_0 a1_1 l1_2 l1_3 = some r) :
    Calls Try.prog 8 #[.agg #[.string a0_0, .string a0_1, .slice A0_2 l0_2.length c0_2, .slice A0_3 l0_3.length c0_3], .agg #[.string a1_0, .string a1_1, .slice A1_2 l1_2.length c1_2, .slice A1_3 l1_3.length c1_3]] w fun e w' => e = .returned (.bool r) ∧ Below w.heap.size w w' := by
  have hu27 := Try.underlying27
  have hu24 := Try.underlying24
  have HR0_2 := mz hr0_2
  have HC0_2 := mz hc0_2
  clear hr0_2 hc0_2
  have HR0_3 := mz hr0_3
  have HC0_3 := mz hc0_3
  clear hr0_3 hc0_3
  have HR1_2 := mz hr1_2
  have HC1_2 := mz hc1_2
  clear hr1_2 hc1_2
  have HR1_3 := mz hr1_3
  have HC1_3 := mz hc1_3
  clear hr1_3 hc1_3
  have HB := mz (Below.refl w.heap.size w)
  have H : ((laws_eqServer.f k a0_0 a0_1 l0_2 a1_0 a1_1 l1_2).bind fun t103 => (if t103 = true then ((laws_eqClientS.f k l0_3 l1_3).bind fun t104 => (if t104 = true then (some true) else (some false))) else (some false))) = some r := h
  clear h
  replace H := be0_ H
  obtain ⟨t103, A30, H⟩ := H
  replace H : (if t103 = true then ((laws_eqClientS.f k l0_3 l1_3).bind fun t104 => (if t104 = true then (some true) else (some false))) else (some false)) = some r := H
  have A3 := mz A30
  clear A30
  by_cases c4 : t103 = true
  · subst c4
    have H1 : ((laws_eqClientS.f k l0_3 l1_3).bind fun t104 => (if t104 = true then (some true) else (some false))) = some r := by rw [if_pos rfl] at H; exact H
    clear H
    have H := H1
    clear H1
    replace H := be0_ H
    obtain ⟨t104, A50, H⟩ := H
    replace H : (if t104 = true then (some true) else (some false)) = some r := H
    have A5 := mz A50
    clear A50
    by_cases c6 : t104 = true
    · subst c6
      have H1 : (some true) = some r := by rw [if_pos rfl] at H; exact H
      clear H
      have H := H1
      clear H1
      obtain rfl := Option.some.inj H
      go_enter Try.func8, Try.ntmps8
      go_wp2_with (first | ((with_reducible refine gate_dst (N := 2) rfl ?_); refine box_event ?hg (N := 2) ?hd (cs := #[.string a0_0, .string a0_1, .slice A0_2 l0_2.length c0_2, .slice A0_3 l0_3.length c0_3]) (t := 27) ?hr ?_; (case hd => rfl); (case hg => rfl); (case hr => first | (go_simp; done) | (go_simp; rfl)); intro gb101 hg w7 hbox hb; have n0_ := mz (below_step (by repeat (first | (with_reducible first | exact HB.out | apply below_alloc | apply pw_below_drewN | apply below_drew1) | exact HB.out)) hb); have n1_ := mz (hbox); have n2_ := mz ((by rw [hg]; exact (below_size (by repeat (first | (with_reducible first | exact HB.out | apply below_alloc | apply pw_below_drewN | apply below_drew1) | exact HB.out))) : w.heap.size ≤ gb101)); have n3_ := mz ((by rw [hg]; exact (below_size (by repeat (first | (with_reducible first | exact HB.out | apply below_alloc | apply pw_below_drewN | apply below_drew1) | exact HB.out))) : w.heap.size ≤ gb101)); clear HB; have HB := n0_; have BK101 := n1_; have GW101 := n2_; have GE101 := n3_; clear n0_ n1_ n2_ n3_; clear hb hbox hg) | ((with_reducible refine gate_dst (N := 3) rfl ?_); refine box_event ?hg (N := 3) ?hd (cs := #[.string a1_0, .string a1_1, .slice A1_2 l1_2.length c1_2, .slice A1_3 l1_3.length c1_3]) (t := 27) ?hr ?_; (case hd => rfl); (case hg => rfl); (case hr => first | (go_simp; done) | (go_simp; rfl)); intro gb102 hg w8 hbox hb; have n0_ := mz (blk_below (g := gb101) (o := .cells #[.string a0_0, .string a0_1, .slice A0_2 l0_2.length c0_2, .slice A0_3 l0_3.length c0_3] 27 (0, 0)) (by (with_reducible repeat (first | refine blk_drewN ?_ _ | refine blk_drew ?_ | refine blk_alloc ?_ _)); exact BK101.out) hb); have n1_ := mz (below_step (by repeat (first | (with_reducible first | exact HB.out | apply below_alloc | apply pw_below_drewN | apply below_drew1 | refine below_set ?_ GE101.out) | exact HB.out)) hb); have n2_ := mz (hbox); have n3_ := mz ((by rw [hg]; exact (below_size (by repeat (first | (with_reducible first | exact HB.out | apply below_alloc | apply pw_below_drewN | apply below_drew1 | refine below_set ?_ GE101.out) | exact HB.out))) : w.heap.size ≤ gb102)); have n4_ := mz ((by rw [hg]; exact (below_size (by repeat (first | (with_reducible first | exact HB.out | apply below_alloc | apply pw_below_drewN | apply below_drew1 | refine below_set ?_ GE101.out) | exact HB.out))) : w.heap.size ≤ gb102)); have n5_ := mz ((by rw [hg]; exact Nat.ne_of_lt (blk_lt (g := gb101) (o := .cells #[.string a0_0, .string a0_1, .slice A0_2 l0_2.length c0_2, .slice A0_3 l0_3.length c0_3] 27 (0, 0)) (by (with_reducible repeat (first | refine blk_drewN ?_ _ | refine blk_drew ?_ | refine blk_alloc ?_ _)); exact BK101.out)) : gb101 ≠ gb102)); have n6_ := mz ((by rw [hg]; exact Nat.ne_of_gt (blk_lt (g := gb101) (o := .cells #[.string a0_0, .string a0_1, .slice A0_2 l0_2.length c0_2, .slice A0_3 l0_3.length c0_3] 27 (0, 0)) (by (with_reducible repeat (first | refine blk_drewN ?_ _ | refine blk_drew ?_ | refine blk_alloc ?_ _)); exact BK101.out)) : gb102 ≠ gb101)); clear BK101; clear HB; have BK101 := n0_; have HB := n1_; have BK102 := n2_; have GW102 := n3_; have GE102 := n4_; have NB101_102 := n5_; have NB102_101 := n6_; clear n0_ n1_ n2_ n3_ n4_ n5_ n6_; clear hb hbox hg; have hnb9 := NB101_102.out; have hnc9 := NB102_101.out; have hcz10_0 : w8.cell? ⟨gb101, 0, none⟩ = some (.string a0_0) := (blk_cell BK101.out 0).trans rfl; have hcz10_1 : w8.cell? ⟨gb101, 1, none⟩ = some (.string a0_1) := (blk_cell BK101.out 1).trans rfl; have hcz10_2 : w8.cell? ⟨gb101, 2, none⟩ = some (.slice A0_2 l0_2.length c0_2) := (blk_cell BK101.out 2).trans rfl; have hcz10_3 : w8.cell? ⟨gb101, 3, none⟩ = some (.slice A0_3 l0_3.length c0_3) := (blk_cell BK101.out 3).trans rfl; have hfz10_0 := blk_frozen BK101.out 0; have hfz10_1 := blk_frozen BK101.out 1; have hfz10_2 := blk_frozen BK101.out 2; have hfz10_3 := blk_frozen BK101.out 3; have hcz11_0 : w8.cell? ⟨gb102, 0, none⟩ = some (.string a1_0) := (blk_cell BK102.out 0).trans rfl; have hcz11_1 : w8.cell? ⟨gb102, 1, none⟩ = some (.string a1_1) := (blk_cell BK102.out 1).trans rfl; have hcz11_2 : w8.cell? ⟨gb102, 2, none⟩ = some (.slice A1_2 l1_2.length c1_2) := (blk_cell BK102.out 2).trans rfl; have hcz11_3 : w8.cell? ⟨gb102, 3, none⟩ = some (.slice A1_3 l1_3.length c1_3) := (blk_cell BK102.out 3).trans rfl; have hfz11_0 := blk_frozen BK102.out 0; have hfz11_1 := blk_frozen BK102.out 1; have hfz11_2 := blk_frozen BK102.out 2; have hfz11_3 := blk_frozen BK102.out 3) | ((with_reducible refine gate_callee (f := 20) rfl ?_); refine goesL_ (some 9) rfl rfl Try.func20 (by kernel_rfl) rfl #[.agg #[.string a0_0, .string a0_1, .slice A0_2 l0_2.length c0_2], .agg #[.string a1_0, .string a1_1, .slice A1_2 l1_2.length c1_2]] rfl (by (try simp only [List.map_toArray, List.map_cons, List.map_nil]); first | done | rfl | (simp only [List.length_drop, List.length_take]; rfl)) ?_; (with_reducible refine (laws_eqServer.calls k a0_0 a0_1 _ _ l0_2 a1_0 a1_1 _ _ l1_2 true _ ?side1 ?side2 ?side3 ?side4 A3.out).mono ?_); (case side1 => repeat (first | exact (Kd.C_below HR0_2.out HB.out) | (with_reducible refine Kd.C_alloc ?_ _) | (with_reducible refine Kd.C_drewN ?_ _) | (with_reducible refine Kd.C_drew ?_))); (case side2 => exact HC0_2.out); (case side3 => repeat (first | exact (Kd.C_below HR1_2.out HB.out) | (with_reducible refine Kd.C_alloc ?_ _) | (with_reducible refine Kd.C_drewN ?_ _) | (with_reducible refine Kd.C_drew ?_))); (case side4 => exact HC1_2.out); rintro e w12 ⟨rfl, hb⟩; refine ⟨_, rfl, ?_⟩; have n0_ := mz (blk_below (g := gb101) (o := .cells #[.string a0_0, .string a0_1, .slice A0_2 l0_2.length c0_2, .slice A0_3 l0_3.length c0_3] 27 (0, 0)) (by (with_reducible repeat (first | refine blk_drewN ?_ _ | refine blk_drew ?_ | refine blk_alloc ?_ _)); exact BK101.out) hb); have n1_ := mz (blk_below (g := gb102) (o := .cells #[.string a1_0, .string a1_1, .slice A1_2 l1_2.length c1_2, .slice A1_3 l1_3.length c1_3] 27 (0, 0)) (by (with_reducible repeat (first | refine blk_drewN ?_ _ | refine blk_drew ?_ | refine blk_alloc ?_ _)); exact BK102.out) hb); have n2_ := mz (below_step (by repeat (first | (with_reducible first | exact HB.out | apply below_alloc | apply pw_below_drewN | apply below_drew1 | refine below_set ?_ GE101.out | refine below_set ?_ GE102.out) | exact HB.out)) hb); clear BK101; clear BK102; clear HB; have BK101 := n0_; have BK102 := n1_; have HB := n2_; clear n0_ n1_ n2_; (try clear hb); (try clear hb2); (try clear hk); (try clear hi); have hcz13_0 : w12.cell? ⟨gb101, 0, none⟩ = some (.string a0_0) := (blk_cell BK101.out 0).trans rfl; have hcz13_1 : w12.cell? ⟨gb101, 1, none⟩ = some (.string a0_1) := (blk_cell BK101.out 1).trans rfl; have hcz13_2 : w12.cell? ⟨gb101, 2, none⟩ = some (.slice A0_2 l0_2.length c0_2) := (blk_cell BK101.out 2).trans rfl; have hcz13_3 : w12.cell? ⟨gb101, 3, none⟩ = some (.slice A0_3 l0_3.length c0_3) := (blk_cell BK101.out 3).trans rfl; have hfz13_0 := blk_frozen BK101.out 0; have hfz13_1 := blk_frozen BK101.out 1; have hfz13_2 := blk_frozen BK101.out 2; have hfz13_3 := blk_frozen BK101.out 3; have hcz14_0 : w12.cell? ⟨gb102, 0, none⟩ = some (.string a1_0) := (blk_cell BK102.out 0).trans rfl; have hcz14_1 : w12.cell? ⟨gb102, 1, none⟩ = some (.string a1_1) := (blk_cell BK102.out 1).trans rfl; have hcz14_2 : w12.cell? ⟨gb102, 2, none⟩ = some (.slice A1_2 l1_2.length c1_2) := (blk_cell BK102.out 2).trans rfl; have hcz14_3 : w12.cell? ⟨gb102, 3, none⟩ = some (.slice A1_3 l1_3.length c1_3) := (blk_cell BK102.out 3).trans rfl; have hfz14_0 := blk_frozen BK102.out 0; have hfz14_1 := blk_frozen BK102.out 1; have hfz14_2 := blk_frozen BK102.out 2; have hfz14_3 := blk_frozen BK102.out 3) | ((with_reducible refine gate_callee (f := 21) rfl ?_); refine goesL_ (some 15) rfl rfl Try.func21 (by kernel_rfl) rfl #[.slice A0_3 l0_3.length c0_3, .slice A1_3 l1_3.length c1_3] rfl (by (try simp only [List.map_toArray, List.map_cons, List.map_nil]); first | done | rfl | (simp only [List.length_drop, List.length_take]; rfl)) ?_; (with_reducible refine (laws_eqClientS.calls k _ _ l0_3 _ _ l1_3 true _ ?side1 ?side2 ?side3 ?side4 A5.out).mono ?_); (case side1 => repeat (first | exact (Kd.C_below HR0_3.out HB.out) | (with_reducible refine Kd.C_alloc ?_ _) | (with_reducible refine Kd.C_drewN ?_ _) | (with_reducible refine Kd.C_drew ?_))); (case side2 => exact HC0_3.out); (case side3 => repeat (first | exact (Kd.C_below HR1_3.out HB.out) | (with_reducible refine Kd.C_alloc ?_ _) | (with_reducible refine Kd.C_drewN ?_ _) | (with_reducible refine Kd.C_drew ?_))); (case side4 => exact HC1_3.out); rintro e w15 ⟨rfl, hb⟩; refine ⟨_, rfl, ?_⟩; have n0_ := mz (blk_below (g := gb101) (o := .cells #[.string a0_0, .string a0_1, .slice A0_2 l0_2.length c0_2, .slice A0_3 l0_3.length c0_3] 27 (0, 0)) (by (with_reducible repeat (first | refine blk_drewN ?_ _ | refine blk_drew ?_ | refine blk_alloc ?_ _)); exact BK101.out) hb); have n1_ := mz (blk_below (g := gb102) (o := .cells #[.string a1_0, .string a1_1, .slice A1_2 l1_2.length c1_2, .slice A1_3 l1_3.length c1_3] 27 (0, 0)) (by (with_reducible repeat (first | refine blk_drewN ?_ _ | refine blk_drew ?_ | refine blk_alloc ?_ _)); exact BK102.out) hb); have n2_ := mz (below_step (by repeat (first | (with_reducible first | exact HB.out | apply below_alloc | apply pw_below_drewN | apply below_drew1 | refine below_set ?_ GE101.out | refine below_set ?_ GE102.out) | exact HB.out)) hb); clear BK101; clear BK102; clear HB; have BK101 := n0_; have BK102 := n1_; have HB := n2_; clear n0_ n1_ n2_; (try clear hb); (try clear hb2); (try clear hk); (try clear hi)))
      go_ret
      exact ⟨by first | rfl | (simp [errW_none, errW_some] <;> rfl) | (simp [*, errW_none, errW_some] <;> rfl), by repeat (first | (with_reducible first | exact HB.out | apply below_alloc | apply pw_below_drewN | apply below_drew1 | refine below_set ?_ GE101.out | refine below_set ?_ GE102.out) | exact HB.out)⟩
    · replace c6 := Bool.eq_false_iff.mpr c6
      subst c6
      have H1 : (some false) = some r := by rw [if_neg (show ¬ (false = true) by decide)] at H; exact H
      clear H
      have H := H1
      clear H1
      obtain rfl := Option.some.inj H
      go_enter Try.func8, Try.ntmps8
      go_wp2_with (first | ((with_reducible refine gate_dst (N := 2) rfl ?_); refine box_event ?hg (N := 2) ?hd (cs := #[.string a0_0, .string a0_1, .slice A0_2 l0_2.length c0_2, .slice A0_3 l0_3.length c0_3]) (t := 27) ?hr ?_; (case hd => rfl); (case hg => rfl); (case hr => first | (go_simp; done) | (go_simp; rfl)); intro gb101 hg w16 hbox hb; have n0_ := mz (below_step (by repeat (first | (with_reducible first | exact HB.out | apply below_alloc | apply pw_below_drewN | apply below_drew1) | exact HB.out)) hb); have n1_ := mz (hbox); have n2_ := mz ((by rw [hg]; exact (below_size (by repeat (first | (with_reducible first | exact HB.out | apply below_alloc | apply pw_below_drewN | apply below_drew1) | exact HB.out))) : w.heap.size ≤ gb101)); have n3_ := mz ((by rw [hg]; exact (below_size (by repeat (first | (with_reducible first | exact HB.out | apply below_alloc | apply pw_below_drewN | apply below_drew1) | exact HB.out))) : w.heap.size ≤ gb101)); clear HB; have HB := n0_; have BK101 := n1_; have GW101 := n2_; have GE101 := n3_; clear n0_ n1_ n2_ n3_; clear hb hbox hg) | ((with_reducible refine gate_dst (N := 3) rfl ?_); refine box_event ?hg (N := 3) ?hd (cs := #[.string a1_0, .string a1_1, .slice A1_2 l1_2.length c1_2, .slice A1_3 l1_3.length c1_3]) (t := 27) ?hr ?_; (case hd => rfl); (case hg => rfl); (case hr => first | (go_simp; done) | (go_simp; rfl)); intro gb102 hg w17 hbox hb; have n0_ := mz (blk_below (g := gb101) (o := .cells #[.string a0_0, .string a0_1, .slice A0_2 l0_2.length c0_2, .slice A0_3 l0_3.length c0_3] 27 (0, 0)) (by (with_reducible repeat (first | refine blk_drewN ?_ _ | refine blk_drew ?_ | refine blk_alloc ?_ _)); exact BK101.out) hb); have n1_ := mz (below_step (by repeat (first | (with_reducible first | exact HB.out | apply below_alloc | apply pw_below_drewN | apply below_drew1 | refine below_set ?_ GE101.out) | exact HB.out)) hb); have n2_ := mz (hbox); have n3_ := mz ((by rw [hg]; exact (below_size (by repeat (first | (with_reducible first | exact HB.out | apply below_alloc | apply pw_below_drewN | apply below_drew1 | refine below_set ?_ GE101.out) | exact HB.out))) : w.heap.size ≤ gb102)); have n4_ := mz ((by rw [hg]; exact (below_size (by repeat (first | (with_reducible first | exact HB.out | apply below_alloc | apply pw_below_drewN | apply below_drew1 | refine below_set ?_ GE101.out) | exact HB.out))) : w.heap.size ≤ gb102)); have n5_ := mz ((by rw [hg]; exact Nat.ne_of_lt (blk_lt (g := gb101) (o := .cells #[.string a0_0, .string a0_1, .slice A0_2 l0_2.length c0_2, .slice A0_3 l0_3.length c0_3] 27 (0, 0)) (by (with_reducible repeat (first | refine blk_drewN ?_ _ | refine blk_drew ?_ | refine blk_alloc ?_ _)); exact BK101.out)) : gb101 ≠ gb102)); have n6_ := mz ((by rw [hg]; exact Nat.ne_of_gt (blk_lt (g := gb101) (o := .cells #[.string a0_0, .string a0_1, .slice A0_2 l0_2.length c0_2, .slice A0_3 l0_3.length c0_3] 27 (0, 0)) (by (with_reducible repeat (first | refine blk_drewN ?_ _ | refine blk_drew ?_ | refine blk_alloc ?_ _)); exact BK101.out)) : gb102 ≠ gb101)); clear BK101; clear HB; have BK101 := n0_; have HB := n1_; have BK102 := n2_; have GW102 := n3_; have GE102 := n4_; have NB101_102 := n5_; have NB102_101 := n6_; clear n0_ n1_ n2_ n3_ n4_ n5_ n6_; clear hb hbox hg; have hnb18 := NB101_102.out; have hnc18 := NB102_101.out; have hcz19_0 : w17.cell? ⟨gb101, 0, none⟩ = some (.string a0_0) := (blk_cell BK101.out 0).trans rfl; have hcz19_1 : w17.cell? ⟨gb101, 1, none⟩ = some (.string a0_1) := (blk_cell BK101.out 1).trans rfl; have hcz19_2 : w17.cell? ⟨gb101, 2, none⟩ = some (.slice A0_2 l0_2.length c0_2) := (blk_cell BK101.out 2).trans rfl; have hcz19_3 : w17.cell? ⟨gb101, 3, none⟩ = some (.slice A0_3 l0_3.length c0_3) := (blk_cell BK101.out 3).trans rfl; have hfz19_0 := blk_frozen BK101.out 0; have hfz19_1 := blk_frozen BK101.out 1; have hfz19_2 := blk_frozen BK101.out 2; have hfz19_3 := blk_frozen BK101.out 3; have hcz20_0 : w17.cell? ⟨gb102, 0, none⟩ = some (.string a1_0) := (blk_cell BK102.out 0).trans rfl; have hcz20_1 : w17.cell? ⟨gb102, 1, none⟩ = some (.string a1_1) := (blk_cell BK102.out 1).trans rfl; have hcz20_2 : w17.cell? ⟨gb102, 2, none⟩ = some (.slice A1_2 l1_2.length c1_2) := (blk_cell BK102.out 2).trans rfl; have hcz20_3 : w17.cell? ⟨gb102, 3, none⟩ = some (.slice A1_3 l1_3.length c1_3) := (blk_cell BK102.out 3).trans rfl; have hfz20_0 := blk_frozen BK102.out 0; have hfz20_1 := blk_frozen BK102.out 1; have hfz20_2 := blk_frozen BK102.out 2; have hfz20_3 := blk_frozen BK102.out 3) | ((with_reducible refine gate_callee (f := 20) rfl ?_); refine goesL_ (some 9) rfl rfl Try.func20 (by kernel_rfl) rfl #[.agg #[.string a0_0, .string a0_1, .slice A0_2 l0_2.length c0_2], .agg #[.string a1_0, .string a1_1, .slice A1_2 l1_2.length c1_2]] rfl (by (try simp only [List.map_toArray, List.map_cons, List.map_nil]); first | done | rfl | (simp only [List.length_drop, List.length_take]; rfl)) ?_; (with_reducible refine (laws_eqServer.calls k a0_0 a0_1 _ _ l0_2 a1_0 a1_1 _ _ l1_2 true _ ?side1 ?side2 ?side3 ?side4 A3.out).mono ?_); (case side1 => repeat (first | exact (Kd.C_below HR0_2.out HB.out) | (with_reducible refine Kd.C_alloc ?_ _) | (with_reducible refine Kd.C_drewN ?_ _) | (with_reducible refine Kd.C_drew ?_))); (case side2 => exact HC0_2.out); (case side3 => repeat (first | exact (Kd.C_below HR1_2.out HB.out) | (with_reducible refine Kd.C_alloc ?_ _) | (with_reducible refine Kd.C_drewN ?_ _) | (with_reducible refine Kd.C_drew ?_))); (case side4 => exact HC1_2.out); rintro e w21 ⟨rfl, hb⟩; refine ⟨_, rfl, ?_⟩; have n0_ := mz (blk_below (g := gb101) (o := .cells #[.string a0_0, .string a0_1, .slice A0_2 l0_2.length c0_2, .slice A0_3 l0_3.length c0_3] 27 (0, 0)) (by (with_reducible repeat (first | refine blk_drewN ?_ _ | refine blk_drew ?_ | refine blk_alloc ?_ _)); exact BK101.out) hb); have n1_ := mz (blk_below (g := gb102) (o := .cells #[.string a1_0, .string a1_1, .slice A1_2 l1_2.length c1_2, .slice A1_3 l1_3.length c1_3] 27 (0, 0)) (by (with_reducible repeat (first | refine blk_drewN ?_ _ | refine blk_drew ?_ | refine blk_alloc ?_ _)); exact BK102.out) hb); have n2_ := mz (below_step (by repeat (first | (with_reducible first | exact HB.out | apply below_alloc | apply pw_below_drewN | apply below_drew1 | refine below_set ?_ GE101.out | refine below_set ?_ GE102.out) | exact HB.out)) hb); clear BK101; clear BK102; clear HB; have BK101 := n0_; have BK102 := n1_; have HB := n2_; clear n0_ n1_ n2_; (try clear hb); (try clear hb2); (try clear hk); (try clear hi); have hcz22_0 : w21.cell? ⟨gb101, 0, none⟩ = some (.string a0_0) := (blk_cell BK101.out 0).trans rfl; have hcz22_1 : w21.cell? ⟨gb101, 1, none⟩ = some (.string a0_1) := (blk_cell BK101.out 1).trans rfl; have hcz22_2 : w21.cell? ⟨gb101, 2, none⟩ = some (.slice A0_2 l0_2.length c0_2) := (blk_cell BK101.out 2).trans rfl; have hcz22_3 : w21.cell? ⟨gb101, 3, none⟩ = some (.slice A0_3 l0_3.length c0_3) := (blk_cell BK101.out 3).trans rfl; have hfz22_0 := blk_frozen BK101.out 0; have hfz22_1 := blk_frozen BK101.out 1; have hfz22_2 := blk_frozen BK101.out 2; have hfz22_3 := blk_frozen BK101.out 3; have hcz23_0 : w21.cell? ⟨gb102, 0, none⟩ = some (.string a1_0) := (blk_cell BK102.out 0).trans rfl; have hcz23_1 : w21.cell? ⟨gb102, 1, none⟩ = some (.string a1_1) := (blk_cell BK102.out 1).trans rfl; have hcz23_2 : w21.cell? ⟨gb102, 2, none⟩ = some (.slice A1_2 l1_2.length c1_2) := (blk_cell BK102.out 2).trans rfl; have hcz23_3 : w21.cell? ⟨gb102, 3, none⟩ = some (.slice A1_3 l1_3.length c1_3) := (blk_cell BK102.out 3).trans rfl; have hfz23_0 := blk_frozen BK102.out 0; have hfz23_1 := blk_frozen BK102.out 1; have hfz23_2 := blk_frozen BK102.out 2; have hfz23_3 := blk_frozen BK102.out 3) | ((with_reducible refine gate_callee (f := 21) rfl ?_); refine goesL_ (some 15) rfl rfl Try.func21 (by kernel_rfl) rfl #[.slice A0_3 l0_3.length c0_3, .slice A1_3 l1_3.length c1_3] rfl (by (try simp only [List.map_toArray, List.map_cons, List.map_nil]); first | done | rfl | (simp only [List.length_drop, List.length_take]; rfl)) ?_; (with_reducible refine (laws_eqClientS.calls k _ _ l0_3 _ _ l1_3 false _ ?side1 ?side2 ?side3 ?side4 A5.out).mono ?_); (case side1 => repeat (first | exact (Kd.C_below HR0_3.out HB.out) | (with_reducible refine Kd.C_alloc ?_ _) | (with_reducible refine Kd.C_drewN ?_ _) | (with_reducible refine Kd.C_drew ?_))); (case side2 => exact HC0_3.out); (case side3 => repeat (first | exact (Kd.C_below HR1_3.out HB.out) | (with_reducible refine Kd.C_alloc ?_ _) | (with_reducible refine Kd.C_drewN ?_ _) | (with_reducible refine Kd.C_drew ?_))); (case side4 => exact HC1_3.out); rintro e w24 ⟨rfl, hb⟩; refine ⟨_, rfl, ?_⟩; have n0_ := mz (blk_below (g := gb101) (o := .cells #[.string a0_0, .string a0_1, .slice A0_2 l0_2.length c0_2, .slice A0_3 l0_3.length c0_3] 27 (0, 0)) (by (with_reducible repeat (first | refine blk_drewN ?_ _ | refine blk_drew ?_ | refine blk_alloc ?_ _)); exact BK101.out) hb); have n1_ := mz (blk_below (g := gb102) (o := .cells #[.string a1_0, .string a1_1, .slice A1_2 l1_2.length c1_2, .slice A1_3 l1_3.length c1_3] 27 (0, 0)) (by (with_reducible repeat (first | refine blk_drewN ?_ _ | refine blk_drew ?_ | refine blk_alloc ?_ _)); exact BK102.out) hb); have n2_ := mz (below_step (by repeat (first | (with_reducible first | exact HB.out | apply below_alloc | apply pw_below_drewN | apply below_drew1 | refine below_set ?_ GE101.out | refine below_set ?_ GE102.out) | exact HB.out)) hb); clear BK101; clear BK102; clear HB; have BK101 := n0_; have BK102 := n1_; have HB := n2_; clear n0_ n1_ n2_; (try clear hb); (try clear hb2); (try clear hk); (try clear hi)))
      go_ret
      exact ⟨by first | rfl | (simp [errW_none, errW_some] <;> rfl) | (simp [*, errW_none, errW_some] <;> rfl), by repeat (first | (with_reducible first | exact HB.out | apply below_alloc | apply pw_below_drewN | apply below_drew1 | refine below_set ?_ GE101.out | refine below_set ?_ GE102.out) | exact HB.out)⟩
  · replace c4 := Bool.eq_false_iff.mpr c4
    subst c4
    have H1 : (some false) = some r := by rw [if_neg (show ¬ (false = true) by decide)] at H; exact H
    clear H
    have H := H1
    clear H1
    obtain rfl := Option.some.inj H
    go_enter Try.func8, Try.ntmps8
    go_wp2_with (first | ((with_reducible refine gate_dst (N := 2) rfl ?_); refine box_event ?hg (N := 2) ?hd (cs := #[.string a0_0, .string a0_1, .slice A0_2 l0_2.length c0_2, .slice A0_3 l0_3.length c0_3]) (t := 27) ?hr ?_; (case hd => rfl); (case hg => rfl); (case hr => first | (go_simp; done) | (go_simp; rfl)); intro gb101 hg w25 hbox hb; have n0_ := mz (below_step (by repeat (first | (with_reducible first | exact HB.out | apply below_alloc | apply pw_below_drewN | apply below_drew1) | exact HB.out)) hb); have n1_ := mz (hbox); have n2_ := mz ((by rw [hg]; exact (below_size (by repeat (first | (with_reducible first | exact HB.out | apply below_alloc | apply pw_below_drewN | apply below_drew1) | exact HB.out))) : w.heap.size ≤ gb101)); have n3_ := mz ((by rw [hg]; exact (below_size (by repeat (first | (with_reducible first | exact HB.out | apply below_alloc | apply pw_below_drewN | apply below_drew1) | exact HB.out))) : w.heap.size ≤ gb101)); clear HB; have HB := n0_; have BK101 := n1_; have GW101 := n2_; have GE101 := n3_; clear n0_ n1_ n2_ n3_; clear hb hbox hg) | ((with_reducible refine gate_dst (N := 3) rfl ?_); refine box_event ?hg (N := 3) ?hd (cs := #[.string a1_0, .string a1_1, .slice A1_2 l1_2.length c1_2, .slice A1_3 l1_3.length c1_3]) (t := 27) ?hr ?_; (case hd => rfl); (case hg => rfl); (case hr => first | (go_simp; done) | (go_simp; rfl)); intro gb102 hg w26 hbox hb; have n0_ := mz (blk_below (g := gb101) (o := .cells #[.string a0_0, .string a0_1, .slice A0_2 l0_2.length c0_2, .slice A0_3 l0_3.length c0_3] 27 (0, 0)) (by (with_reducible repeat (first | refine blk_drewN ?_ _ | refine blk_drew ?_ | refine blk_alloc ?_ _)); exact BK101.out) hb); have n1_ := mz (below_step (by repeat (first | (with_reducible first | exact HB.out | apply below_alloc | apply pw_below_drewN | apply below_drew1 | refine below_set ?_ GE101.out) | exact HB.out)) hb); have n2_ := mz (hbox); have n3_ := mz ((by rw [hg]; exact (below_size (by repeat (first | (with_reducible first | exact HB.out | apply below_alloc | apply pw_below_drewN | apply below_drew1 | refine below_set ?_ GE101.out) | exact HB.out))) : w.heap.size ≤ gb102)); have n4_ := mz ((by rw [hg]; exact (below_size (by repeat (first | (with_reducible first | exact HB.out | apply below_alloc | apply pw_below_drewN | apply below_drew1 | refine below_set ?_ GE101.out) | exact HB.out))) : w.heap.size ≤ gb102)); have n5_ := mz ((by rw [hg]; exact Nat.ne_of_lt (blk_lt (g := gb101) (o := .cells #[.string a0_0, .string a0_1, .slice A0_2 l0_2.length c0_2, .slice A0_3 l0_3.length c0_3] 27 (0, 0)) (by (with_reducible repeat (first | refine blk_drewN ?_ _ | refine blk_drew ?_ | refine blk_alloc ?_ _)); exact BK101.out)) : gb101 ≠ gb102)); have n6_ := mz ((by rw [hg]; exact Nat.ne_of_gt (blk_lt (g := gb101) (o := .cells #[.string a0_0, .string a0_1, .slice A0_2 l0_2.length c0_2, .slice A0_3 l0_3.length c0_3] 27 (0, 0)) (by (with_reducible repeat (first | refine blk_drewN ?_ _ | refine blk_drew ?_ | refine blk_alloc ?_ _)); exact BK101.out)) : gb102 ≠ gb101)); clear BK101; clear HB; have BK101 := n0_; have HB := n1_; have BK102 := n2_; have GW102 := n3_; have GE102 := n4_; have NB101_102 := n5_; have NB102_101 := n6_; clear n0_ n1_ n2_ n3_ n4_ n5_ n6_; clear hb hbox hg; have hnb27 := NB101_102.out; have hnc27 := NB102_101.out; have hcz28_0 : w26.cell? ⟨gb101, 0, none⟩ = some (.string a0_0) := (blk_cell BK101.out 0).trans rfl; have hcz28_1 : w26.cell? ⟨gb101, 1, none⟩ = some (.string a0_1) := (blk_cell BK101.out 1).trans rfl; have hcz28_2 : w26.cell? ⟨gb101, 2, none⟩ = some (.slice A0_2 l0_2.length c0_2) := (blk_cell BK101.out 2).trans rfl; have hcz28_3 : w26.cell? ⟨gb101, 3, none⟩ = some (.slice A0_3 l0_3.length c0_3) := (blk_cell BK101.out 3).trans rfl; have hfz28_0 := blk_frozen BK101.out 0; have hfz28_1 := blk_frozen BK101.out 1; have hfz28_2 := blk_frozen BK101.out 2; have hfz28_3 := blk_frozen BK101.out 3; have hcz29_0 : w26.cell? ⟨gb102, 0, none⟩ = some (.string a1_0) := (blk_cell BK102.out 0).trans rfl; have hcz29_1 : w26.cell? ⟨gb102, 1, none⟩ = some (.string a1_1) := (blk_cell BK102.out 1).trans rfl; have hcz29_2 : w26.cell? ⟨gb102, 2, none⟩ = some (.slice A1_2 l1_2.length c1_2) := (blk_cell BK102.out 2).trans rfl; have hcz29_3 : w26.cell? ⟨gb102, 3, none⟩ = some (.slice A1_3 l1_3.length c1_3) := (blk_cell BK102.out 3).trans rfl; have hfz29_0 := blk_frozen BK102.out 0; have hfz29_1 := blk_frozen BK102.out 1; have hfz29_2 := blk_frozen BK102.out 2; have hfz29_3 := blk_frozen BK102.out 3) | ((with_reducible refine gate_callee (f := 20) rfl ?_); refine goesL_ (some 9) rfl rfl Try.func20 (by kernel_rfl) rfl #[.agg #[.string a0_0, .string a0_1, .slice A0_2 l0_2.length c0_2], .agg #[.string a1_0, .string a1_1, .slice A1_2 l1_2.length c1_2]] rfl (by (try simp only [List.map_toArray, List.map_cons, List.map_nil]); first | done | rfl | (simp only [List.length_drop, List.length_take]; rfl)) ?_; (with_reducible refine (laws_eqServer.calls k a0_0 a0_1 _ _ l0_2 a1_0 a1_1 _ _ l1_2 false _ ?side1 ?side2 ?side3 ?side4 A3.out).mono ?_); (case side1 => repeat (first | exact (Kd.C_below HR0_2.out HB.out) | (with_reducible refine Kd.C_alloc ?_ _) | (with_reducible refine Kd.C_drewN ?_ _) | (with_reducible refine Kd.C_drew ?_))); (case side2 => exact HC0_2.out); (case side3 => repeat (first | exact (Kd.C_below HR1_2.out HB.out) | (with_reducible refine Kd.C_alloc ?_ _) | (with_reducible refine Kd.C_drewN ?_ _) | (with_reducible refine Kd.C_drew ?_))); (case side4 => exact HC1_2.out); rintro e w30 ⟨rfl, hb⟩; refine ⟨_, rfl, ?_⟩; have n0_ := mz (blk_below (g := gb101) (o := .cells #[.string a0_0, .string a0_1, .slice A0_2 l0_2.length c0_2, .slice A0_3 l0_3.length c0_3] 27 (0, 0)) (by (with_reducible repeat (first | refine blk_drewN ?_ _ | refine blk_drew ?_ | refine blk_alloc ?_ _)); exact BK101.out) hb); have n1_ := mz (blk_below (g := gb102) (o := .cells #[.string a1_0, .string a1_1, .slice A1_2 l1_2.length c1_2, .slice A1_3 l1_3.length c1_3] 27 (0, 0)) (by (with_reducible repeat (first | refine blk_drewN ?_ _ | refine blk_drew ?_ | refine blk_alloc ?_ _)); exact BK102.out) hb); have n2_ := mz (below_step (by repeat (first | (with_reducible first | exact HB.out | apply below_alloc | apply pw_below_drewN | apply below_drew1 | refine below_set ?_ GE101.out | refine below_set ?_ GE102.out) | exact HB.out)) hb); clear BK101; clear BK102; clear HB; have BK101 := n0_; have BK102 := n1_; have HB := n2_; clear n0_ n1_ n2_; (try clear hb); (try clear hb2); (try clear hk); (try clear hi)))
    go_ret
    exact ⟨by first | rfl | (simp [errW_none, errW_some] <;> rfl) | (simp [*, errW_none, errW_some] <;> rfl), by repeat (first | (with_reducible first | exact HB.out | apply below_alloc | apply pw_below_drewN | apply below_drew1 | refine below_set ?_ GE101.out | refine below_set ?_ GE102.out) | exact HB.out)⟩
end
def shortC (l : List Client) : Prop := l.length ≤ maxLen ∧ ∀ e ∈ l, e.f5.length ≤ maxLen ∧ e.f6.length ≤ maxLen
theorem eqClientS_loop (a : List Client) (hm : shortC a) (d : Nat) : ∀ i : Nat, i + d = a.length → Ev (fun k => laws_eqClientS.l0 k a a (i : Int)) true := by
  have hm1 := hm.1
  simp only [maxLen] at hm1
  induction d with
  | zero =>
    intro i h
    refine Ev.succ ?_
    simp only [laws_eqClientS.l0, if_neg (show ¬ ((i : Int) < (a.length : Int)) by omega)]
    exact Ev.now _
  | succ d ih =>
    intro i h
    have hi : i < a.length := by omega
    refine Ev.succ ?_
    simp only [laws_eqClientS.l0, if_pos (show ((i : Int) < (a.length : Int)) by omega), if_pos (show (0 : Int) ≤ i by omega), rd_client a i hi]
    simp only [eqClient_val a[i] (hm.2 _ (List.getElem_mem hi)).1 (hm.2 _ (List.getElem_mem hi)).2, Option.bind_some, if_true, w64 (show -9223372036854775808 ≤ (i : Int) + 1 by omega) (by omega)]
    exact ih (i + 1) (by omega)
theorem eqClientS_ev (a : List Client) (hm : shortC a) : Ev (fun k => laws_eqClientS.f k a a) true := by
  unfold laws_eqClientS.f
  simp only [if_true]
  exact eqClientS_loop a hm a.length 0 (by omega)
theorem eqMeeting_ev (a t : ByteArray) (l : List Entry) (cs : List Client) (hm : shortL l) (hc : shortC cs) : Ev (fun k => laws_eqMeeting.f k a t l cs a t l cs) true := by
  unfold laws_eqMeeting.f
  refine Ev.bind (eqServer_ev a t l hm) ?_
  simp only [if_true]
  refine Ev.bind (eqClientS_ev cs hc) ?_
  simp only [if_true]
  exact Ev.now _
section
attribute [local go_sem] max2_int min2_int max_two min_two max_three min_three max_four min_four
def laws_markText.l0 : Nat → Int → ByteArray → Option (ByteArray)
  | 0, _, _ => none
  | k + 1, x0, x3 => if x0 > 0 then ((some (([(wrap64 (48 + (Int.tmod x0 10))) % 256] : List Int) : List Int)).bind fun y101 => (if (strOfNums y101).size + x3.size ≤ 9223372036854775807 then (laws_markText.l0 k (wrap64 (Int.tdiv x0 10)) ((strOfNums y101) ++ x3)) else (none))) else (if 1 + x3.size ≤ 9223372036854775807 then (some ((⟨#[109]⟩ : ByteArray) ++ x3)) else (none))
def laws_markText.f (k : Nat) (a0 : Int) : Option (ByteArray) := if a0 ≤ 0 then (some (⟨#[109, 48]⟩ : ByteArray)) else (laws_markText.l0 k a0 (⟨#[]⟩ : ByteArray))
set_option maxHeartbeats 8000000 in
set_option maxRecDepth 100000 in
theorem laws_markText.calls (k : Nat) (a0 : Int) (r : ByteArray) (w : World) (h : laws_markText.f k a0 = some r) :
    Calls Try.prog 44 #[.int .i64 a0] w fun e w' => e = .returned (.string r) ∧ Below w.heap.size w w' := by
  have HB := mz (Below.refl w.heap.size w)
  have H : (if a0 ≤ 0 then (some (⟨#[109, 48]⟩ : ByteArray)) else (laws_markText.l0 k a0 (⟨#[]⟩ : ByteArray))) = some r := h
  clear h
  by_cases c2 : a0 ≤ 0
  · rw [if_pos c2] at H
    have c2b0 : decide (a0 ≤ 0) = true := decide_eq_true c2
    clear c2
    obtain rfl := Option.some.inj H
    go_enter Try.func44, Try.ntmps44
    go_wp2
    go_ret
    exact ⟨by first | rfl | (simp [errW_none, errW_some] <;> rfl) | (simp [*, errW_none, errW_some] <;> rfl), by repeat (first | (with_reducible first | exact HB.out | apply below_alloc | apply pw_below_drewN | apply below_drew1) | exact HB.out)⟩
  · rw [if_neg c2] at H
    have c2b0 : decide (a0 ≤ 0) = false := decide_eq_false c2
    clear c2
    have H' := mz H
    clear H
    go_enter Try.func44, Try.ntmps44
    go_wp2
    go_loopg [0, 3] k (fun kq v0 v3 w' => ∃ (x0_1 : Int) (x3_1 : ByteArray), v0 = .int .i64 x0_1 ∧ v3 = .string x3_1 ∧ Aside0 (laws_markText.l0 kq x0_1 x3_1 = some r) ∧ Aside0 (kq ≤ k) ∧ Aside0 (Below w.heap.size w w'))
    case atStart => exact ⟨(a0), ((⟨#[]⟩ : ByteArray)), (by first | rfl | (simp; done) | (simp [*]; done)), (by first | rfl | (simp; done) | (simp [*]; done)), H', ⟨Nat.le_refl _⟩, ⟨by repeat (first | (with_reducible first | exact HB.out | apply below_alloc | apply pw_below_drewN | apply below_drew1) | exact HB.out)⟩⟩
    case round =>
      clear H'
      try clear c2
      try clear c2b0
      try clear p2
      obtain ⟨x0_1, x3_1, rfl, rfl, HA, HK1, HB⟩ := hrel
      cases gk with
      | zero => exact absurd HA.out (by simp [laws_markText.l0])
      | succ k1 =>
        have H := HA.out
        clear HA
        simp only [laws_markText.l0] at H
        by_cases c3 : x0_1 > 0
        · rw [if_pos c3] at H
          have c3b0 : decide (0 < x0_1) = true := decide_eq_true c3
          clear c3
          obtain ⟨y101, hy101⟩ : ∃ y_ : List Int, y_ = (([(wrap64 (48 + (Int.tmod x0_1 10))) % 256] : List Int)) := ⟨_, rfl⟩
          replace H : (if (strOfNums y101).size + x3_1.size ≤ 9223372036854775807 then (laws_markText.l0 k1 (wrap64 (Int.tdiv x0_1 10)) ((strOfNums y101) ++ x3_1)) else (none)) = some r := by first | (rw [hy101]; with_reducible exact H) | (have H2_ := (Option.bind_some _ _).symm.trans H; rw [hy101]; with_reducible exact H2_) | (have H2_ := (Option.bind_some _ _).symm.trans H; with_reducible exact H2_) | with_reducible exact H | (rw [hy101]; exact H) | exact H
          have Ny101 := mz hy101
          clear hy101
          by_cases c4 : (strOfNums y101).size + x3_1.size ≤ 9223372036854775807
          · rw [if_pos c4] at H
            have c4b0 := eq_true c4
            have c4b1 : decide ((strOfNums y101).size + x3_1.size ≤ 9223372036854775807) = true := decide_eq_true c4
            try have c4b2 : (9223372036854775807 < (strOfNums y101).size + x3_1.size) = False := eq_false (Nat.not_lt.2 c4)
            have H' := mz H
            clear H
            go_wp2_with (first | ((with_reducible refine gate_dst (N := 12) rfl ?_); refine Kd.R_lit (Kd.int .u8) _ 5 ?hg (N := 12) ?hd (xs := ([(wrap64 (48 + (Int.tmod x0_1 10))) % 256] : List Int)) (inner := [.int .u8 ((wrap64 (48 + (Int.tmod x0_1 10))) % 256)]) (ok := fun _ => True) (okp := fun _ => True) ?hr ?hp (fun _ hk => hk) trivial (Below.refl _ _) (Nat.le_refl _) (by simp) ?_; (case hd => rfl); (case hg => rfl); (case hr => first | (go_simp; done) | (go_simp; rfl)); (case hp => exact (Reps.one (show Kd.M (Kd.int .u8) _ _ _ ((wrap64 (48 + (Int.tmod x0_1 10))) % 256) [.int .u8 ((wrap64 (48 + (Int.tmod x0_1 10))) % 256)] from rfl) (Reps.none _ _))); intro v102 w5 ho6 hb hg_ hnew_; clear hg_ hnew_; (first | rw [← Ny101.out] at ho6 | (simp only [Int.reduceToNat] at ho6; rw [← Ny101.out] at ho6)); have n0_ := mz (Kd.R_lower ho6 (below_size (by repeat (first | (with_reducible first | exact HB.out | apply below_alloc | apply pw_below_drewN | apply below_drew1) | exact HB.out)))); have n1_ := mz (below_step (by repeat (first | (with_reducible first | exact HB.out | apply below_alloc | apply pw_below_drewN | apply below_drew1) | exact HB.out)) hb); clear HB; have HO103 := n0_; have HB := n1_; clear n0_ n1_; clear hb ho6; have hcv7 := own_string (P := Try.prog) Try.underlying94 Try.underlying5 Try.underlying9 (Kd.own_of_R HO103.out)))
            go_roundg k1
            case measure => have := HK1.out; omega
            case rel => exact ⟨(wrap64 (Int.tdiv x0_1 10)), ((strOfNums y101) ++ x3_1), (by first | rfl | (simp; done) | (simp [*]; done)), (by first | rfl | (simp; done) | (simp [*]; done)), H', ⟨by have := HK1.out; omega⟩, ⟨by repeat (first | (with_reducible first | exact HB.out | apply below_alloc | apply pw_below_drewN | apply below_drew1) | exact HB.out)⟩⟩
          · rw [if_neg c4] at H
            exact absurd H (by simp)
        · rw [if_neg c3] at H
          have c3b0 : decide (0 < x0_1) = false := decide_eq_false c3
          clear c3
          by_cases c8 : 1 + x3_1.size ≤ 9223372036854775807
          · rw [if_pos c8] at H
            have c8b0 := eq_true c8
            have c8b1 : decide (1 + x3_1.size ≤ 9223372036854775807) = true := decide_eq_true c8
            try have c8b2 : (9223372036854775807 < 1 + x3_1.size) = False := eq_false (Nat.not_lt.2 c8)
            obtain rfl := Option.some.inj H
            go_wp2
            go_ret
            exact ⟨by first | rfl | (simp [errW_none, errW_some] <;> rfl) | (simp [*, errW_none, errW_some] <;> rfl), by repeat (first | (with_reducible first | exact HB.out | apply below_alloc | apply pw_below_drewN | apply below_drew1) | exact HB.out)⟩
          · rw [if_neg c8] at H
            exact absurd H (by simp)
end
theorem strOfNums_one (x : Int) : (strOfNums [x]).size = 1 := by simp [strOfNums, ByteArray.size]
theorem markText_loop (m : Nat) : ∀ (n : Int) (acc : ByteArray), n.toNat < m → 0 ≤ n → n + acc.size ≤ 4611686018427387904 → ∃ s, Ev (fun k => laws_markText.l0 k n acc) s := by
  induction m with
  | zero => intro n acc h; omega
  | succ m ih =>
    intro n acc h h0 hb
    by_cases hn : n > 0
    · have e1 : Int.tmod n 10 = n % 10 := Int.tmod_eq_emod_of_nonneg h0
      have e2 : Int.tdiv n 10 = n / 10 := Int.tdiv_eq_ediv_of_nonneg h0
      have hsz : ∀ x : Int, (strOfNums [x] ++ acc).size = 1 + acc.size := fun x => by rw [ByteArray.size_append, strOfNums_one]
      obtain ⟨s, hs⟩ := ih (n / 10) (strOfNums [(wrap64 (48 + (n % 10))) % 256] ++ acc) (by omega) (by omega) (by rw [hsz]; omega)
      refine ⟨s, Ev.succ ?_⟩
      simp only [laws_markText.l0, if_pos hn, Option.bind_some, strOfNums_one, if_pos (show 1 + acc.size ≤ 9223372036854775807 by omega), e1, e2, w64 (show -9223372036854775808 ≤ n / 10 by omega) (by omega)]
      exact hs
    · refine ⟨(⟨#[109]⟩ : ByteArray) ++ acc, Ev.succ ?_⟩
      simp only [laws_markText.l0, if_neg hn, if_pos (show 1 + acc.size ≤ 9223372036854775807 by omega)]
      exact Ev.now _
theorem markText_some (n : Int) (h : n ≤ 4611686018427387904) : ∃ s, Ev (fun k => laws_markText.f k n) s := by
  unfold laws_markText.f
  by_cases hn : n ≤ 0
  · simp only [if_pos hn]; exact ⟨_, Ev.now _⟩
  · simp only [if_neg hn]
    exact markText_loop (n.toNat + 1) n ⟨#[]⟩ (by omega) (by omega) (by show n + 0 ≤ _; omega)
noncomputable def mtext (n : Int) : ByteArray := if h : n ≤ 4611686018427387904 then Classical.choose (markText_some n h) else ByteArray.empty
theorem mtext_ev (n : Int) (h : n ≤ 4611686018427387904) : Ev (fun k => laws_markText.f k n) (mtext n) := by
  unfold mtext
  rw [dif_pos h]
  exact Classical.choose_spec (markText_some n h)
def bareC (l : List Client) : Prop := ∀ y ∈ l, y.f5 = [] ∧ y.f6 = []
noncomputable def mkC (n : Int) : Client := ⟨n, mtext (n + 1), n + 2, n + 3, ((n + 4) % 3 == 0), [], [], ((n + 5) % 3 == 0)⟩
noncomputable def markC (n : Int) : List Client → List Client
  | [] => []
  | _ :: l => mkC n :: markC (n + 6) l
theorem markC_length (l : List Client) : ∀ n, (markC n l).length = l.length := by
  induction l with
  | nil => intro n; rfl
  | cons p l ih => intro n; simp [markC, ih]
theorem markC_append (a b : List Client) : ∀ n, markC n (a ++ b) = markC n a ++ markC (n + 6 * (a.length : Int)) b := by
  induction a with
  | nil => intro n; simp [markC]
  | cons e a ih =>
    intro n
    simp only [List.cons_append, markC, ih, List.length_cons]
    rw [show n + 6 + 6 * (a.length : Int) = n + 6 * ((a.length + 1 : Nat) : Int) by omega]
theorem markC_get (l : List Client) : ∀ (n : Int) (i : Nat) (h : i < (markC n l).length), (markC n l)[i] = mkC (n + 6 * i) := by
  induction l with
  | nil => intro n i h; simp [markC] at h
  | cons p l ih =>
    intro n i h
    cases i with
    | zero => simp [markC]
    | succ i =>
      simp only [markC, List.getElem_cons_succ, ih]
      rw [show n + 6 + 6 * (i : Int) = n + 6 * ((i + 1 : Nat) : Int) by omega]
noncomputable def curC (n : Int) (l : List Client) (i : Nat) : List Client := markC n (l.take i) ++ l.drop i
theorem curC_get (n : Int) (l : List Client) (i : Nat) (h : i < l.length) (z : Client) : (curC n l i).getD i z = l[i] := by
  have e : (markC n (l.take i)).length = i := by rw [markC_length, List.length_take]; omega
  rw [curC, List.getD_eq_getElem?_getD, List.getElem?_append_right (by omega), e, Nat.sub_self, List.getElem?_drop]
  simp [h]
theorem curC_step (n : Int) (l : List Client) (i : Nat) (h : i < l.length) : (curC n l i).set i (mkC (n + 6 * (i : Int))) = curC n l (i + 1) := by
  have e : (markC n (l.take i)).length = i := by rw [markC_length, List.length_take]; omega
  rw [curC, curC, List.set_append_right _ _ (by omega), e, Nat.sub_self, List.drop_eq_getElem_cons h, List.set_cons_zero, List.take_succ_eq_append_getElem h, markC_append, List.append_assoc]
  have e2 : (l.take i).length = i := by rw [List.length_take]; omega
  rw [e2]
  rfl
set_option maxHeartbeats 2000000 in
theorem markPart_nil (A : Option Addr) (c : Nat) (n : Int) (w : World) :
    Calls Try.prog 45 #[.slice A 0 c, .int .i64 n] w fun e w' => e = .returned (.int .i64 n) ∧ Below w.heap.size w w' := by
  go_enter Try.func45, Try.ntmps45
  go_wp2
  go_loopg [1, 5] 0 (fun gg s1 s5 wr => s1 = .int .i64 n ∧ s5 = .int .i64 0 ∧ Aside0 (Below w.heap.size w wr))
  case atStart => exact ⟨rfl, rfl, ⟨Below.refl _ _⟩⟩
  case round =>
    obtain ⟨rfl, rfl, BW⟩ := hrel
    go_wp2
    go_ret
    exact ⟨rfl, BW.out⟩
set_option maxHeartbeats 2000000 in
theorem markEntry_nil (A : Option Addr) (c : Nat) (n : Int) (w : World) :
    Calls Try.prog 43 #[.slice A 0 c, .int .i64 n] w fun e w' => e = .returned (.int .i64 n) ∧ Below w.heap.size w w' := by
  go_enter Try.func43, Try.ntmps43
  go_wp2
  go_loopg [1, 5] 0 (fun gg s1 s5 wr => s1 = .int .i64 n ∧ s5 = .int .i64 0 ∧ Aside0 (Below w.heap.size w wr))
  case atStart => exact ⟨rfl, rfl, ⟨Below.refl _ _⟩⟩
  case round =>
    obtain ⟨rfl, rfl, BW⟩ := hrel
    go_wp2
    go_ret
    exact ⟨rfl, BW.out⟩
theorem R_empty_step {w w' : World} {base : Nat} {ok : Nat → Prop} {v : Value} (h : Kd.R k86 86 w base ok v []) (hb : Below w.heap.size w w') : Kd.R k86 86 w' base ok v [] := Kd.R_below h hb
theorem Kept.set_ {w W : World} {ok : Nat → Prop} {g : Nat} (h : Kept w W ok) (hg : ok g) (i : Nat) (u : Value) : Kept w (W.setCell ⟨g, i, none⟩ u) ok :=
  ⟨by simpa using h.1, fun k hk hn => (Below.heap_setCell _ _ _ k (fun e => by subst e; exact hn hg)).trans (h.2 k hk hn)⟩
theorem Kept.below_ {w W W' : World} {ok : Nat → Prop} (h : Kept w W ok) (hb : Below W.heap.size W W') : Kept w W' ok :=
  ⟨Nat.le_trans h.1 hb.size, fun k hk hn => (hb.block k (Nat.lt_of_lt_of_le hk h.1)).trans (h.2 k hk hn)⟩
theorem cl_at {W : World} {base : Nat} {ok oki : Nat → Prop} {g n cap kk : Nat} {xs : List Client} {c0 c1 c2 c3 c4 c5 c6 c7 : Value} (h : Kd.H k51 51 W base ok (.slice (some ⟨g, 0, none⟩) n cap) xs (kk : Int) oki [c0, c1, c2, c3, c4, c5, c6, c7]) (h1 : (kk : Int) < (n : Int)) :
    (W.cell? ⟨g, kk * 8, none⟩ = some c0 ∧ W.cell? ⟨g, kk * 8 + 1, none⟩ = some c1 ∧ W.cell? ⟨g, kk * 8 + 2, none⟩ = some c2 ∧ W.cell? ⟨g, kk * 8 + 3, none⟩ = some c3 ∧ W.cell? ⟨g, kk * 8 + 4, none⟩ = some c4 ∧ W.cell? ⟨g, kk * 8 + 5, none⟩ = some c5 ∧ W.cell? ⟨g, kk * 8 + 6, none⟩ = some c6 ∧ W.cell? ⟨g, kk * 8 + 7, none⟩ = some c7) ∧
    (W.frozen? ⟨g, kk * 8, none⟩ = false ∧ W.frozen? ⟨g, kk * 8 + 1, none⟩ = false ∧ W.frozen? ⟨g, kk * 8 + 2, none⟩ = false ∧ W.frozen? ⟨g, kk * 8 + 3, none⟩ = false ∧ W.frozen? ⟨g, kk * 8 + 4, none⟩ = false ∧ W.frozen? ⟨g, kk * 8 + 7, none⟩ = false) := by
  obtain ⟨hc, hf⟩ := Kd.H_at h (by omega) h1
  have hsz : k51.sz = 8 := rfl
  rw [hsz, Int.toNat_natCast] at hc hf
  exact ⟨⟨hc 0 _ rfl, hc 1 _ rfl, hc 2 _ rfl, hc 3 _ rfl, hc 4 _ rfl, hc 5 _ rfl, hc 6 _ rfl, hc 7 _ rfl⟩, hf 0, hf 1, hf 2, hf 3, hf 4, hf 7⟩
theorem cl_put (j : Nat) {W : World} {base : Nat} {ok oki : Nat → Prop} {g n cap kk : Nat} {xs : List Client} {c c' : List Value} (h : Kd.H k51 51 W base ok (.slice (some ⟨g, 0, none⟩) n cap) xs (kk : Int) oki c) (h1 : (kk : Int) < (n : Int)) (u : Value) (hu : u.oneCell' = true := by rfl) (hj : j + 1 ≤ 8 := by decide) (hc : c.take j ++ [u] ++ c.drop (j + 1) = c' := by rfl) :
    Kd.H k51 51 (W.setCell ⟨g, kk * 8 + j, none⟩ u) base ok (.slice (some ⟨g, 0, none⟩) n cap) xs (kk : Int) oki c' := by
  have := (Kd.H_seg h (by omega) h1 (seg := [u]) (j := j) hj (by intro q hq; rw [List.mem_singleton.1 hq]; exact hu)).1
  rw [Int.toNat_natCast] at this
  exact hc ▸ this

set_option maxHeartbeats 8000000 in
set_option maxRecDepth 100000 in
theorem markClientS_walk (v : Value) (ok : Nat → Prop) (l : List Client) (n : Int) (w0 w : World) (hB : Below w0.heap.size w0 w) (hS : Kd.S k51 51 w w0.heap.size ok v l) (hl : bareC l) (hn0 : 0 ≤ n) (hb : n + 6 * (l.length : Int) ≤ 4000000000000000) :
    Calls Try.prog 23 #[v, .int .i64 n] w fun e w' => e = .returned (.int .i64 (n + 6 * (l.length : Int))) ∧ Kd.S k51 51 w' w0.heap.size ok v (markC n l) ∧ Below w0.heap.size w0 w' ∧ Kept w w' ok := by
  have HS := mz hS
  have HB := mz hB
  have HN := mz hb
  have HN0 := mz hn0
  have HL := mz hl
  by_cases hpos : 0 < l.length
  · obtain ⟨g, cap, rfl, _, _, _, _⟩ := Kd.S_form hS hpos
    clear hS hB hb hn0 hl
    go_enter Try.func23, Try.ntmps23
    go_wp2
    go_loopg [1, 5] l.length (fun gg s1 s5 wr => ∃ kk : Nat, kk ≤ l.length ∧ l.length - kk ≤ gg ∧ s1 = .int .i64 (n + 6 * (kk : Int)) ∧ s5 = .int .i64 kk ∧ Aside0 (Kd.S k51 51 wr w0.heap.size ok (.slice (some ⟨g, 0, none⟩) l.length cap) (curC n l kk)) ∧ Aside0 (Below w0.heap.size w0 wr) ∧ Aside0 (Kept w wr ok))
    case atStart => exact ⟨0, Nat.zero_le _, by omega, by simp, rfl, ⟨by simpa [curC, markC] using HS.out⟩, ⟨HB.out⟩, ⟨Kept.refl w ok⟩⟩
    case round =>
      obtain ⟨kk, hkk, hg, rfl, rfl, WS, WB, WK⟩ := hrel
      by_cases hlt : kk < l.length
      · have hltz : (kk : Int) < (l.length : Int) := by omega
        obtain ⟨oki, c, hcl, hM, hcc, hfr, hoki, hH⟩ := Kd.S_elem WS.out z51 (kk : Int) (by omega) hltz
        rw [Int.toNat_natCast, curC_get n l kk hlt] at hM
        obtain ⟨v5, v6, rfl, hR5, hR6⟩ := k51_openM hM
        have hsz : k51.sz = 8 := rfl
        rw [hsz, Int.toNat_natCast] at hcc hfr
        obtain ⟨b5, b6⟩ := HL.out l[kk] (List.getElem_mem hlt)
        rw [b5] at hR5
        rw [b6] at hR6
        obtain ⟨A5, c5, rfl⟩ := Kd.R_slice hR5
        obtain ⟨A6, c6, rfl⟩ := Kd.R_slice hR6
        simp only [List.length_nil] at hR5 hR6 hcc hH
        have hcs := curC_step n l kk hlt
        have hnn := HN.out
        have hn0 := HN0.out
        obtain ⟨m, hm⟩ : ∃ m, n + 6 * (kk : Int) = m := ⟨_, rfl⟩
        rw [hm] at hcs ⊢
        have hm0 : 0 ≤ m := by omega
        have hm1 : m ≤ 4000000000000000 := by omega
        have hm6 : m + 6 = n + 6 * ((kk + 1 : Nat) : Int) := by omega
        obtain ⟨K, hK⟩ := Ev.rounds (mtext_ev (m + 1) (by omega))
        have HH := mz hH
        have HR5 := mz hR5
        have HR6 := mz hR6
        have HOK := mz hoki
        have HCS := mz hcs
        have HM6 := mz hm6
        have HK := mz hK
        have hokg : ok g := (Kd.S_R WS.out).1 g (by simp [Value.ownBlock])
        have hbg : w0.heap.size ≤ g := Kd.S_base WS.out g (by simp [Value.ownBlock])
        have HG := mz hokg
        have HBG := mz hbg
        clear hcl hM hcc hfr hoki hH hsz hR5 hR6 hcs hnn hn0 hm hm6 hK b5 b6 hokg hbg
        generalize l[kk] = y at HH
        obtain ⟨⟨x0, x1, x2, x3, x4, x5, x6, x7⟩, f0, f1, f2, f3, f4, f7⟩ := cl_at HH.out hltz
        go_wp2_with fail
        have hH1 : Kd.H k51 51 (wr.setCell ⟨g, kk * 8, none⟩ (.int .i64 m)) w0.heap.size ok (.slice (some ⟨g, 0, none⟩) l.length cap) (curC n l kk) (kk : Int) oki [.int .i64 m, .string y.f1, .int .i64 y.f2, .int .i64 y.f3, .bool y.f4, .slice A5 0 c5, .slice A6 0 c6, .bool y.f7] := (cl_put 0 HH.out hltz (.int .i64 m))
        have hB1 : Below w0.heap.size w0 (wr.setCell ⟨g, kk * 8, none⟩ (.int .i64 m)) := (below_set WB.out HBG.out)
        have hK1 : Kept w (wr.setCell ⟨g, kk * 8, none⟩ (.int .i64 m)) ok := (Kept.set_ WK.out HG.out _ _)
        have h51 : Kd.R k86 86 (wr.setCell ⟨g, kk * 8, none⟩ (.int .i64 m)) w0.heap.size oki (.slice A5 0 c5) [] := (Kd.R_far (p := ⟨g, kk * 8, none⟩) HR5.out (fun k hk => (HOK.out k hk).2) (.int .i64 m))
        have h61 : Kd.R k86 86 (wr.setCell ⟨g, kk * 8, none⟩ (.int .i64 m)) w0.heap.size oki (.slice A6 0 c6) [] := (Kd.R_far (p := ⟨g, kk * 8, none⟩) HR6.out (fun k hk => (HOK.out k hk).2) (.int .i64 m))
        clear x0 x1 x2 x3 x4 x5 x6 x7 f0 f1 f2 f3 f4 f7
        generalize (wr.setCell ⟨g, kk * 8, none⟩ (.int .i64 m)) = W1 at hH1 hB1 hK1 h51 h61 ⊢
        refine (laws_markText.calls K (m + 1) _ _ HK.out).mono ?_
        rintro e w2 ⟨rfl, hb⟩
        have HH2 := mz (Kd.H_below hH1 hb)
        have WB2 := mz (show Below w0.heap.size w0 w2 from hB1.trans (hb.mono hB1.size))
        have WK2 := mz (Kept.below_ hK1 hb)
        have HR52 := mz (R_empty_step h51 hb)
        have HR62 := mz (R_empty_step h61 hb)
        clear hH1 hB1 hK1 h51 h61 hb
        obtain ⟨⟨x0, x1, x2, x3, x4, x5, x6, x7⟩, f0, f1, f2, f3, f4, f7⟩ := cl_at HH2.out hltz
        go_wp2_with fail
        have hH3 : Kd.H k51 51 ((((w2.setCell ⟨g, kk * 8 + 1, none⟩ (.string (mtext (m + 1)))).setCell ⟨g, kk * 8 + 2, none⟩ (.int .i64 (m + 1 + 1))).setCell ⟨g, kk * 8 + 3, none⟩ (.int .i64 (m + 1 + 1 + 1))).setCell ⟨g, kk * 8 + 4, none⟩ (.bool ((m + 1 + 1 + 1 + 1) % 3 == 0))) w0.heap.size ok (.slice (some ⟨g, 0, none⟩) l.length cap) (curC n l kk) (kk : Int) oki [.int .i64 m, .string (mtext (m + 1)), .int .i64 (m + 1 + 1), .int .i64 (m + 1 + 1 + 1), .bool ((m + 1 + 1 + 1 + 1) % 3 == 0), .slice A5 0 c5, .slice A6 0 c6, .bool y.f7] := (cl_put 4 (cl_put 3 (cl_put 2 (cl_put 1 HH2.out hltz (.string (mtext (m + 1)))) hltz (.int .i64 (m + 1 + 1))) hltz (.int .i64 (m + 1 + 1 + 1))) hltz (.bool ((m + 1 + 1 + 1 + 1) % 3 == 0)))
        have hB3 : Below w0.heap.size w0 ((((w2.setCell ⟨g, kk * 8 + 1, none⟩ (.string (mtext (m + 1)))).setCell ⟨g, kk * 8 + 2, none⟩ (.int .i64 (m + 1 + 1))).setCell ⟨g, kk * 8 + 3, none⟩ (.int .i64 (m + 1 + 1 + 1))).setCell ⟨g, kk * 8 + 4, none⟩ (.bool ((m + 1 + 1 + 1 + 1) % 3 == 0))) := (below_set (below_set (below_set (below_set WB2.out HBG.out) HBG.out) HBG.out) HBG.out)
        have hK3 : Kept w ((((w2.setCell ⟨g, kk * 8 + 1, none⟩ (.string (mtext (m + 1)))).setCell ⟨g, kk * 8 + 2, none⟩ (.int .i64 (m + 1 + 1))).setCell ⟨g, kk * 8 + 3, none⟩ (.int .i64 (m + 1 + 1 + 1))).setCell ⟨g, kk * 8 + 4, none⟩ (.bool ((m + 1 + 1 + 1 + 1) % 3 == 0))) ok := (Kept.set_ (Kept.set_ (Kept.set_ (Kept.set_ WK2.out HG.out _ _) HG.out _ _) HG.out _ _) HG.out _ _)
        have h53 : Kd.R k86 86 ((((w2.setCell ⟨g, kk * 8 + 1, none⟩ (.string (mtext (m + 1)))).setCell ⟨g, kk * 8 + 2, none⟩ (.int .i64 (m + 1 + 1))).setCell ⟨g, kk * 8 + 3, none⟩ (.int .i64 (m + 1 + 1 + 1))).setCell ⟨g, kk * 8 + 4, none⟩ (.bool ((m + 1 + 1 + 1 + 1) % 3 == 0))) w0.heap.size oki (.slice A5 0 c5) [] := (Kd.R_far (p := ⟨g, kk * 8 + 4, none⟩) (Kd.R_far (p := ⟨g, kk * 8 + 3, none⟩) (Kd.R_far (p := ⟨g, kk * 8 + 2, none⟩) (Kd.R_far (p := ⟨g, kk * 8 + 1, none⟩) HR52.out (fun k hk => (HOK.out k hk).2) (.string (mtext (m + 1)))) (fun k hk => (HOK.out k hk).2) (.int .i64 (m + 1 + 1))) (fun k hk => (HOK.out k hk).2) (.int .i64 (m + 1 + 1 + 1))) (fun k hk => (HOK.out k hk).2) (.bool ((m + 1 + 1 + 1 + 1) % 3 == 0)))
        have h63 : Kd.R k86 86 ((((w2.setCell ⟨g, kk * 8 + 1, none⟩ (.string (mtext (m + 1)))).setCell ⟨g, kk * 8 + 2, none⟩ (.int .i64 (m + 1 + 1))).setCell ⟨g, kk * 8 + 3, none⟩ (.int .i64 (m + 1 + 1 + 1))).setCell ⟨g, kk * 8 + 4, none⟩ (.bool ((m + 1 + 1 + 1 + 1) % 3 == 0))) w0.heap.size oki (.slice A6 0 c6) [] := (Kd.R_far (p := ⟨g, kk * 8 + 4, none⟩) (Kd.R_far (p := ⟨g, kk * 8 + 3, none⟩) (Kd.R_far (p := ⟨g, kk * 8 + 2, none⟩) (Kd.R_far (p := ⟨g, kk * 8 + 1, none⟩) HR62.out (fun k hk => (HOK.out k hk).2) (.string (mtext (m + 1)))) (fun k hk => (HOK.out k hk).2) (.int .i64 (m + 1 + 1))) (fun k hk => (HOK.out k hk).2) (.int .i64 (m + 1 + 1 + 1))) (fun k hk => (HOK.out k hk).2) (.bool ((m + 1 + 1 + 1 + 1) % 3 == 0)))
        clear x0 x1 x2 x3 x4 x5 x6 x7 f0 f1 f2 f3 f4 f7
        generalize ((((w2.setCell ⟨g, kk * 8 + 1, none⟩ (.string (mtext (m + 1)))).setCell ⟨g, kk * 8 + 2, none⟩ (.int .i64 (m + 1 + 1))).setCell ⟨g, kk * 8 + 3, none⟩ (.int .i64 (m + 1 + 1 + 1))).setCell ⟨g, kk * 8 + 4, none⟩ (.bool ((m + 1 + 1 + 1 + 1) % 3 == 0))) = W3 at hH3 hB3 hK3 h53 h63 ⊢
        refine (markPart_nil A5 c5 _ _).mono ?_
        rintro e w4 ⟨rfl, hb⟩
        have HH4 := mz (Kd.H_below hH3 hb)
        have WB4 := mz (show Below w0.heap.size w0 w4 from hB3.trans (hb.mono hB3.size))
        have WK4 := mz (Kept.below_ hK3 hb)
        have HR54 := mz (R_empty_step h53 hb)
        have HR64 := mz (R_empty_step h63 hb)
        clear hH3 hB3 hK3 h53 h63 hb
        obtain ⟨⟨x0, x1, x2, x3, x4, x5, x6, x7⟩, f0, f1, f2, f3, f4, f7⟩ := cl_at HH4.out hltz
        go_wp2_with fail
        refine (markPart_nil A6 c6 _ _).mono ?_
        rintro e w5 ⟨rfl, hb⟩
        have HH5 := mz (Kd.H_below HH4.out hb)
        have WB5 := mz (show Below w0.heap.size w0 w5 from WB4.out.trans (hb.mono WB4.out.size))
        have WK5 := mz (Kept.below_ WK4.out hb)
        have HR55 := mz (R_empty_step HR54.out hb)
        have HR65 := mz (R_empty_step HR64.out hb)
        clear hb x0 x1 x2 x3 x4 x5 x6 x7 f0 f1 f2 f3 f4 f7
        obtain ⟨⟨x0, x1, x2, x3, x4, x5, x6, x7⟩, f0, f1, f2, f3, f4, f7⟩ := cl_at HH5.out hltz
        go_wp2_with fail
        have hH6 : Kd.H k51 51 (w5.setCell ⟨g, kk * 8 + 7, none⟩ (.bool ((m + 1 + 1 + 1 + 1 + 1) % 3 == 0))) w0.heap.size ok (.slice (some ⟨g, 0, none⟩) l.length cap) (curC n l kk) (kk : Int) oki [.int .i64 m, .string (mtext (m + 1)), .int .i64 (m + 1 + 1), .int .i64 (m + 1 + 1 + 1), .bool ((m + 1 + 1 + 1 + 1) % 3 == 0), .slice A5 0 c5, .slice A6 0 c6, .bool ((m + 1 + 1 + 1 + 1 + 1) % 3 == 0)] := (cl_put 7 HH5.out hltz (.bool ((m + 1 + 1 + 1 + 1 + 1) % 3 == 0)))
        have hB6 : Below w0.heap.size w0 (w5.setCell ⟨g, kk * 8 + 7, none⟩ (.bool ((m + 1 + 1 + 1 + 1 + 1) % 3 == 0))) := (below_set WB5.out HBG.out)
        have hK6 : Kept w (w5.setCell ⟨g, kk * 8 + 7, none⟩ (.bool ((m + 1 + 1 + 1 + 1 + 1) % 3 == 0))) ok := (Kept.set_ WK5.out HG.out _ _)
        have h56 : Kd.R k86 86 (w5.setCell ⟨g, kk * 8 + 7, none⟩ (.bool ((m + 1 + 1 + 1 + 1 + 1) % 3 == 0))) w0.heap.size oki (.slice A5 0 c5) [] := (Kd.R_far (p := ⟨g, kk * 8 + 7, none⟩) HR55.out (fun k hk => (HOK.out k hk).2) (.bool ((m + 1 + 1 + 1 + 1 + 1) % 3 == 0)))
        have h66 : Kd.R k86 86 (w5.setCell ⟨g, kk * 8 + 7, none⟩ (.bool ((m + 1 + 1 + 1 + 1 + 1) % 3 == 0))) w0.heap.size oki (.slice A6 0 c6) [] := (Kd.R_far (p := ⟨g, kk * 8 + 7, none⟩) HR65.out (fun k hk => (HOK.out k hk).2) (.bool ((m + 1 + 1 + 1 + 1 + 1) % 3 == 0)))
        clear x0 x1 x2 x3 x4 x5 x6 x7 f0 f1 f2 f3 f4 f7
        generalize (w5.setCell ⟨g, kk * 8 + 7, none⟩ (.bool ((m + 1 + 1 + 1 + 1 + 1) % 3 == 0))) = W6 at hH6 hB6 hK6 h56 h66 ⊢
        have hS6 := Kd.H_back hH6 (x' := mkC m) (okp := oki) (by have := k51_mkM W6 w0.heap.size oki (mkC m) h56 h66; simpa only [mkC, show m + 1 + 1 = m + 2 by omega, show m + 2 + 1 = m + 3 by omega, show m + 3 + 1 = m + 4 by omega, show m + 4 + 1 = m + 5 by omega] using this) (fun k hk => hk)
        rw [Int.toNat_natCast, HCS.out] at hS6
        have HS6 := mz hS6
        have WB6 := mz hB6
        have WK6 := mz hK6
        clear hS6 hB6 hK6 hH6 h56 h66
        go_wp2_with fail
        go_roundg (l.length - (kk + 1))
        case measure => omega
        case rel => have hl64 := HN.out; have hn64 := HN0.out; exact ⟨kk + 1, by omega, by omega, by rw [← HM6.out]; (first | go_num | (congr 1; unfold wrap64; omega)), by (first | go_num | (congr 1; unfold wrap64; omega)), ⟨HS6.out⟩, ⟨WB6.out⟩, ⟨WK6.out⟩⟩
      · have hltz : ¬ (kk : Int) < (l.length : Int) := by omega
        obtain rfl : kk = l.length := by omega
        have hfin : Aside0 (curC n l l.length = markC n l) := ⟨by simp [curC]⟩
        go_wp2
        go_ret
        refine ⟨rfl, ?_, WB.out, WK.out⟩
        rw [← hfin.out]
        exact WS.out
  · have hl0 : l = [] := List.eq_nil_of_length_eq_zero (by omega)
    subst hl0
    obtain ⟨A, c, rfl⟩ := Kd.S_slice hS
    clear hS hB hb hn0 hpos hl
    simp only [List.length_nil]
    go_enter Try.func23, Try.ntmps23
    go_wp2
    go_loopg [1, 5] 0 (fun gg s1 s5 wr => s1 = .int .i64 n ∧ s5 = .int .i64 0 ∧ Aside0 (Below w.heap.size w wr))
    case atStart => exact ⟨rfl, rfl, ⟨Below.refl _ _⟩⟩
    case round =>
      obtain ⟨rfl, rfl, BW⟩ := hrel
      go_wp2
      go_ret
      refine ⟨by simp, ?_, ?_, Kept.of_below BW.out ok⟩
      · simpa [markC] using Kd.S_below HS.out BW.out
      · exact HB.out.trans (BW.out.mono HB.out.size)
set_option maxHeartbeats 2000000 in
theorem heldPart_nil (A : Option Addr) (c : Nat) (n : Int) (w : World) :
    Calls Try.prog 47 #[.slice A 0 c, .int .i64 n] w fun e w' => e = .returned (.int .i64 n) ∧ Below w.heap.size w w' := by
  go_enter Try.func47, Try.ntmps47
  go_wp2
  go_loopg [1, 5] 0 (fun gg s1 s5 wr => s1 = .int .i64 n ∧ s5 = .int .i64 0 ∧ Aside0 (Below w.heap.size w wr))
  case atStart => exact ⟨rfl, rfl, ⟨Below.refl _ _⟩⟩
  case round =>
    obtain ⟨rfl, rfl, BW⟩ := hrel
    go_wp2
    go_ret
    exact ⟨rfl, BW.out⟩
set_option maxHeartbeats 2000000 in
theorem heldEntry_nil (A : Option Addr) (c : Nat) (n : Int) (w : World) :
    Calls Try.prog 46 #[.slice A 0 c, .int .i64 n] w fun e w' => e = .returned (.int .i64 n) ∧ Below w.heap.size w w' := by
  go_enter Try.func46, Try.ntmps46
  go_wp2
  go_loopg [1, 5] 0 (fun gg s1 s5 wr => s1 = .int .i64 n ∧ s5 = .int .i64 0 ∧ Aside0 (Below w.heap.size w wr))
  case atStart => exact ⟨rfl, rfl, ⟨Below.refl _ _⟩⟩
  case round =>
    obtain ⟨rfl, rfl, BW⟩ := hrel
    go_wp2
    go_ret
    exact ⟨rfl, BW.out⟩
set_option maxHeartbeats 8000000 in
set_option maxRecDepth 100000 in
theorem heldClientS_walk (A : Option Addr) (c : Nat) (l : List Client) (n : Int) (w : World) (hr : Kd.C k51 w A l.length (markC n l)) (hn0 : 0 ≤ n) (hb : n + 6 * (l.length : Int) ≤ 4000000000000000) :
    Calls Try.prog 25 #[.slice A l.length c, .int .i64 n] w fun e w' => e = .returned (.int .i64 (n + 6 * (l.length : Int))) ∧ Below w.heap.size w w' := by
  have HR := mz hr
  have HN := mz hb
  have HN0 := mz hn0
  clear hr hb hn0
  go_enter Try.func25, Try.ntmps25
  go_wp2
  go_loopg [1, 5] l.length (fun gg s1 s5 wr => ∃ kk : Nat, kk ≤ l.length ∧ l.length - kk ≤ gg ∧ s1 = .int .i64 (n + 6 * (kk : Int)) ∧ s5 = .int .i64 kk ∧ Aside0 (Below w.heap.size w wr))
  case atStart => exact ⟨0, Nat.zero_le _, by omega, by simp, rfl, ⟨Below.refl _ _⟩⟩
  case round =>
    obtain ⟨kk, hkk, hg, rfl, rfl, BW⟩ := hrel
    by_cases hlt : kk < l.length
    · have hltz : (kk : Int) < (l.length : Int) := by omega
      obtain ⟨ad, A5, c5, A6, c6, e1, hx0, hx1, hx2, hx3, hx4, hx5, hx6, hx7, hl5, hi5, hl6, hi6⟩ := at_T51 (Kd.C_below HR.out BW.out) (kk : Int) (by omega) hltz
      subst e1
      have hgl : kk < (markC n l).length := by rw [markC_length]; exact hlt
      rw [rd_client (markC n l) kk hgl, markC_get] at hx0 hx1 hx2 hx3 hx4 hx5 hx6 hx7 hl5 hi5 hl6 hi6
      rw [Int.toNat_natCast] at hx0 hx1 hx2 hx3 hx4 hx5 hx6 hx7
      have hnn := HN.out
      have hn0 := HN0.out
      obtain ⟨m, hm⟩ : ∃ m, n + 6 * (kk : Int) = m := ⟨_, rfl⟩
      rw [hm] at hx0 hx1 hx2 hx3 hx4 hx5 hx6 hx7 ⊢
      have hm0 : 0 ≤ m := by omega
      have hm1 : m ≤ 4000000000000000 := by omega
      have hm6 : m + 6 = n + 6 * ((kk + 1 : Nat) : Int) := by omega
      have HM6 := mz hm6
      obtain ⟨K, hK⟩ := Ev.rounds (mtext_ev (m + 1) (by omega))
      have HK := mz hK
      clear hK hm hm6 hnn hn0 hl5 hi5 hl6 hi6 hgl
      simp only [mkC, List.length_nil, show m + 2 = m + 1 + 1 by omega, show m + 3 = m + 1 + 1 + 1 by omega, show m + 4 = m + 1 + 1 + 1 + 1 by omega, show m + 5 = m + 1 + 1 + 1 + 1 + 1 by omega] at hx0 hx1 hx2 hx3 hx4 hx5 hx6 hx7
      have F : ∀ W', Below wr.heap.size wr W' → (W'.cell? (ad.add (kk * 8)) = some (.int .i64 m) ∧ W'.cell? ⟨(ad.add (kk * 8)).block, (ad.add (kk * 8)).off + 1, none⟩ = some (.string (mtext (m + 1))) ∧ W'.cell? ⟨(ad.add (kk * 8)).block, (ad.add (kk * 8)).off + 2, none⟩ = some (.int .i64 (m + 1 + 1)) ∧ W'.cell? ⟨(ad.add (kk * 8)).block, (ad.add (kk * 8)).off + 3, none⟩ = some (.int .i64 (m + 1 + 1 + 1)) ∧ W'.cell? ⟨(ad.add (kk * 8)).block, (ad.add (kk * 8)).off + 4, none⟩ = some (.bool ((m + 1 + 1 + 1 + 1) % 3 == 0)) ∧ W'.cell? ⟨(ad.add (kk * 8)).block, (ad.add (kk * 8)).off + 5, none⟩ = some (.slice A5 0 c5) ∧ W'.cell? ⟨(ad.add (kk * 8)).block, (ad.add (kk * 8)).off + 6, none⟩ = some (.slice A6 0 c6) ∧ W'.cell? ⟨(ad.add (kk * 8)).block, (ad.add (kk * 8)).off + 7, none⟩ = some (.bool ((m + 1 + 1 + 1 + 1 + 1) % 3 == 0))) := fun W' hb => ⟨(hb.cell (World.block_lt_of_cell? wr _ hx0)).trans hx0, (hb.cell (World.block_lt_of_cell? wr _ hx1)).trans hx1, (hb.cell (World.block_lt_of_cell? wr _ hx2)).trans hx2, (hb.cell (World.block_lt_of_cell? wr _ hx3)).trans hx3, (hb.cell (World.block_lt_of_cell? wr _ hx4)).trans hx4, (hb.cell (World.block_lt_of_cell? wr _ hx5)).trans hx5, (hb.cell (World.block_lt_of_cell? wr _ hx6)).trans hx6, (hb.cell (World.block_lt_of_cell? wr _ hx7)).trans hx7⟩
      have FF := mz F
      clear F
      have hb4 : (((m + 1 + 1 + 1 + 1) % 3 == 0) != ((m + 1 + 1 + 1 + 1) % 3 == 0)) = false := bne_self_eq_false _
      have hb5 : (((m + 1 + 1 + 1 + 1 + 1) % 3 == 0) != ((m + 1 + 1 + 1 + 1 + 1) % 3 == 0)) = false := bne_self_eq_false _
      skip
      go_upto_region 7 with (fail)
      have F := FF.out
      refine wp_region_held_drew (S := fun W' => Below wr.heap.size wr W') (by kernel_rfl) (below_drew1 (Below.refl _ _)) (fun Y7 => ?_)
      refine' tF 0 F ?_
      refine' tF 1 F ?_
      refine' tF 2 F ?_
      refine' tF 3 F ?_
      refine' tF 4 F ?_
      refine' tF 5 F ?_
      refine' tC 6 (laws_markText.calls K (m + 1) _ _ HK.out) ?_
      rintro e' w5 ⟨rfl, hb⟩
      refine ⟨_, rfl, below_step Y7 hb, ?_⟩
      intro a' ha' Y8
      (try simp only [Act.put, List.getElem_toArray, List.getElem_cons_succ, List.getElem_cons_zero, List.setIfInBounds_toArray, List.set_cons_zero, List.set_cons_succ] at ha')
      subst ha'
      have HB5 := mz Y8
      clear hb
      have htt : ((mtext (m + 1)).toList != (mtext (m + 1)).toList) = false := bne_self_eq_false _
      refine' tF 7 F ?_
      refine wpAnyH_done (by kernel_rfl) ?_ _
      clear F Y7 Y8 hx0 hx1 hx2 hx3 hx4 hx5 hx6 hx7
      obtain ⟨hx0, hx1, hx2, hx3, hx4, hx5, hx6, hx7⟩ := FF.out _ HB5.out
      go_wp2_with fail
      refine (heldPart_nil A5 c5 _ _).mono ?_
      rintro e w6 ⟨rfl, hb⟩
      have HB6 := mz (below_step HB5.out hb)
      clear hb hx0 hx1 hx2 hx3 hx4 hx5 hx6 hx7
      obtain ⟨hx0, hx1, hx2, hx3, hx4, hx5, hx6, hx7⟩ := FF.out _ HB6.out
      go_wp2_with fail
      refine (heldPart_nil A6 c6 _ _).mono ?_
      rintro e w7 ⟨rfl, hb⟩
      have HB7 := mz (below_step HB6.out hb)
      clear hb hx0 hx1 hx2 hx3 hx4 hx5 hx6 hx7
      obtain ⟨hx0, hx1, hx2, hx3, hx4, hx5, hx6, hx7⟩ := FF.out _ HB7.out
      go_wp2_with fail
      go_roundg (l.length - (kk + 1))
      case measure => omega
      case rel => have hl64 := HN.out; have hn64 := HN0.out; exact ⟨kk + 1, by omega, by omega, by rw [← HM6.out]; (first | go_num | (congr 1; unfold wrap64; omega)), by (first | go_num | (congr 1; unfold wrap64; omega)), ⟨below_step BW.out HB7.out⟩⟩
    · have hltz : ¬ (kk : Int) < (l.length : Int) := by omega
      obtain rfl : kk = l.length := by omega
      go_wp2
      go_ret
      exact ⟨rfl, BW.out⟩
section
attribute [local go_sem] max2_int min2_int max_two min_two max_three min_three max_four min_four
def impl_NewServer.f (k : Nat) (a0 : ByteArray) : Option (ByteArray × ByteArray × (List (S67)) × Bool) := (impl_GoodText.f k a0).bind fun t102 => (if t102 = true then (some (a0, a0, ([] : List (S67)), true)) else (some ((⟨#[]⟩ : ByteArray), (⟨#[]⟩ : ByteArray), ([] : List (S67)), false)))
set_option maxHeartbeats 8000000 in
set_option maxRecDepth 100000 in
theorem impl_NewServer.calls (k : Nat) (a0 : ByteArray) (r1 : ByteArray) (r2 : ByteArray) (r3 : List (S67)) (r4 : Bool) (w : World) (h : impl_NewServer.f k a0 = some (r1, r2, r3, r4)) :
    Calls Try.prog 19 #[.string a0] w fun e w' => ∃ v2_ : Value, e = .returned (.tuple #[.agg #[.string r1, .string r2, v2_], .bool r4]) ∧ Kd.S k67 67 w' w.heap.size (fun _ => True) v2_ r3 ∧ Below w.heap.size w w' := by
  have hu24 := Try.underlying24
  have HB := mz (Below.refl w.heap.size w)
  have H : ((impl_GoodText.f k a0).bind fun t102 => (if t102 = true then (some (a0, a0, ([] : List (S67)), true)) else (some ((⟨#[]⟩ : ByteArray), (⟨#[]⟩ : ByteArray), ([] : List (S67)), false)))) = some (r1, r2, r3, r4) := h
  clear h
  replace H := be0_ H
  obtain ⟨t102, A20, H⟩ := H
  replace H : (if t102 = true then (some (a0, a0, ([] : List (S67)), true)) else (some ((⟨#[]⟩ : ByteArray), (⟨#[]⟩ : ByteArray), ([] : List (S67)), false))) = some (r1, r2, r3, r4) := H
  have A2 := mz A20
  clear A20
  by_cases c3 : t102 = true
  · subst c3
    have H1 : (some (a0, a0, ([] : List (S67)), true)) = some (r1, r2, r3, r4) := by rw [if_pos rfl] at H; exact H
    clear H
    have H := H1
    clear H1
    simp only [Option.some.injEq, Prod.mk.injEq] at H
    obtain ⟨rfl, rfl, rfl, rfl⟩ := H
    go_enter Try.func19, Try.ntmps19
    go_wp2_with (first | ((with_reducible refine gate_dst (N := 2) rfl ?_); refine box_event ?hg (N := 2) ?hd (cs := #[.string (⟨#[]⟩ : ByteArray), .string (⟨#[]⟩ : ByteArray), .slice none 0 0]) (t := 24) ?hr ?_; (case hd => rfl); (case hg => rfl); (case hr => first | (go_simp; done) | (go_simp; rfl)); intro gb101 hg w4 hbox hb; have n0_ := mz (below_step (by repeat (first | (with_reducible first | exact HB.out | apply below_alloc | apply pw_below_drewN | apply below_drew1) | exact HB.out)) hb); have n1_ := mz (hbox); have n2_ := mz ((by rw [hg]; exact (below_size (by repeat (first | (with_reducible first | exact HB.out | apply below_alloc | apply pw_below_drewN | apply below_drew1) | exact HB.out))) : w.heap.size ≤ gb101)); have n3_ := mz ((by rw [hg]; exact (below_size (by repeat (first | (with_reducible first | exact HB.out | apply below_alloc | apply pw_below_drewN | apply below_drew1) | exact HB.out))) : w.heap.size ≤ gb101)); clear HB; have HB := n0_; have BK101 := n1_; have GW101 := n2_; have GE101 := n3_; clear n0_ n1_ n2_ n3_; clear hb hbox hg) | ((with_reducible refine gate_callee (f := 40) rfl ?_); refine goesL_ (some 5) rfl rfl Try.func40 (by kernel_rfl) rfl #[.string a0] rfl (by (try simp only [List.map_toArray, List.map_cons, List.map_nil]); first | done | rfl | (simp only [List.length_drop, List.length_take]; rfl)) ?_; (with_reducible refine (impl_GoodText.calls k a0 true _ A2.out).mono ?_); rintro e w' ⟨rfl, ⟨nd, rfl⟩⟩; refine ⟨_, rfl, ?_⟩; (try (rw [drewN_self w4]; generalize hq_ : World.drewN w4 _ = w4; have n0_ : Aside0 (w4.heap[gb101]? = some (.cells #[.string (⟨#[]⟩ : ByteArray), .string (⟨#[]⟩ : ByteArray), .slice none 0 0] 24 (0, 0))) := ⟨by rw [← hq_]; exact (by (with_reducible repeat (first | refine blk_drewN ?_ _ | refine blk_drew ?_ | refine blk_alloc ?_ _)); exact BK101.out)⟩; have n1_ : Aside0 (Below w.heap.size w w4) := ⟨by rw [← hq_]; exact (by repeat (first | (with_reducible first | exact HB.out | apply below_alloc | apply pw_below_drewN | apply below_drew1 | refine below_set ?_ GE101.out) | exact HB.out))⟩; clear BK101 HB hq_; have BK101 := n0_; have HB := n1_; clear n0_ n1_)); have hcz5_0 : w4.cell? ⟨gb101, 0, none⟩ = some (.string (⟨#[]⟩ : ByteArray)) := (blk_cell BK101.out 0).trans rfl; have hcz5_1 : w4.cell? ⟨gb101, 1, none⟩ = some (.string (⟨#[]⟩ : ByteArray)) := (blk_cell BK101.out 1).trans rfl; have hcz5_2 : w4.cell? ⟨gb101, 2, none⟩ = some (.slice none 0 0) := (blk_cell BK101.out 2).trans rfl; have hfz5_0 := blk_frozen BK101.out 0; have hfz5_1 := blk_frozen BK101.out 1; have hfz5_2 := blk_frozen BK101.out 2))
    refine bodyPost_ret (results_ct rfl _ _ gb101 24 #[.string a0, .string a0, .slice none 0 0] (0, 0) _ rfl (by (with_reducible repeat (first | refine blk_drewN ?_ _ | refine blk_drew ?_ | refine blk_alloc ?_ _)); refine blk_put (cs := #[.string a0, .string a0, .slice none 0 0]) ?_ 2 _ rfl; (with_reducible repeat (first | refine blk_drewN ?_ _ | refine blk_drew ?_ | refine blk_alloc ?_ _)); refine blk_put (cs := #[.string a0, .string (⟨#[]⟩ : ByteArray), .slice none 0 0]) ?_ 1 _ rfl; (with_reducible repeat (first | refine blk_drewN ?_ _ | refine blk_drew ?_ | refine blk_alloc ?_ _)); refine blk_put (cs := #[.string (⟨#[]⟩ : ByteArray), .string (⟨#[]⟩ : ByteArray), .slice none 0 0]) ?_ 0 _ rfl; (with_reducible repeat (first | refine blk_drewN ?_ _ | refine blk_drew ?_ | refine blk_alloc ?_ _)); exact BK101.out) Try.underlying24 rfl (by kernel_rfl)) rfl ?_
    exact ⟨_, by first | rfl | (simp [errW_none, errW_some] <;> rfl) | (simp [*, errW_none, errW_some] <;> rfl), by first | exact Kd.S_nil _ _ _ _ _ | exact Kd.N_nil _ _ _ _ _ | exact Kd.V_nil _ _ _ _ _ | exact Kd.Q_nil _ _ _ _ _ | exact Kd.R_nil _ _ _ _ _, by repeat (first | (with_reducible first | exact HB.out | apply below_alloc | apply pw_below_drewN | apply below_drew1 | refine below_set ?_ GE101.out) | exact HB.out)⟩
  · replace c3 := Bool.eq_false_iff.mpr c3
    subst c3
    have H1 : (some ((⟨#[]⟩ : ByteArray), (⟨#[]⟩ : ByteArray), ([] : List (S67)), false)) = some (r1, r2, r3, r4) := by rw [if_neg (show ¬ (false = true) by decide)] at H; exact H
    clear H
    have H := H1
    clear H1
    simp only [Option.some.injEq, Prod.mk.injEq] at H
    obtain ⟨rfl, rfl, rfl, rfl⟩ := H
    go_enter Try.func19, Try.ntmps19
    go_wp2_with (first | ((with_reducible refine gate_dst (N := 2) rfl ?_); refine box_event ?hg (N := 2) ?hd (cs := #[.string (⟨#[]⟩ : ByteArray), .string (⟨#[]⟩ : ByteArray), .slice none 0 0]) (t := 24) ?hr ?_; (case hd => rfl); (case hg => rfl); (case hr => first | (go_simp; done) | (go_simp; rfl)); intro gb101 hg w6 hbox hb; have n0_ := mz (below_step (by repeat (first | (with_reducible first | exact HB.out | apply below_alloc | apply pw_below_drewN | apply below_drew1) | exact HB.out)) hb); have n1_ := mz (hbox); have n2_ := mz ((by rw [hg]; exact (below_size (by repeat (first | (with_reducible first | exact HB.out | apply below_alloc | apply pw_below_drewN | apply below_drew1) | exact HB.out))) : w.heap.size ≤ gb101)); have n3_ := mz ((by rw [hg]; exact (below_size (by repeat (first | (with_reducible first | exact HB.out | apply below_alloc | apply pw_below_drewN | apply below_drew1) | exact HB.out))) : w.heap.size ≤ gb101)); clear HB; have HB := n0_; have BK101 := n1_; have GW101 := n2_; have GE101 := n3_; clear n0_ n1_ n2_ n3_; clear hb hbox hg) | ((with_reducible refine gate_callee (f := 40) rfl ?_); refine goesL_ (some 5) rfl rfl Try.func40 (by kernel_rfl) rfl #[.string a0] rfl (by (try simp only [List.map_toArray, List.map_cons, List.map_nil]); first | done | rfl | (simp only [List.length_drop, List.length_take]; rfl)) ?_; (with_reducible refine (impl_GoodText.calls k a0 false _ A2.out).mono ?_); rintro e w' ⟨rfl, ⟨nd, rfl⟩⟩; refine ⟨_, rfl, ?_⟩; (try (rw [drewN_self w6]; generalize hq_ : World.drewN w6 _ = w6; have n0_ : Aside0 (w6.heap[gb101]? = some (.cells #[.string (⟨#[]⟩ : ByteArray), .string (⟨#[]⟩ : ByteArray), .slice none 0 0] 24 (0, 0))) := ⟨by rw [← hq_]; exact (by (with_reducible repeat (first | refine blk_drewN ?_ _ | refine blk_drew ?_ | refine blk_alloc ?_ _)); exact BK101.out)⟩; have n1_ : Aside0 (Below w.heap.size w w6) := ⟨by rw [← hq_]; exact (by repeat (first | (with_reducible first | exact HB.out | apply below_alloc | apply pw_below_drewN | apply below_drew1 | refine below_set ?_ GE101.out) | exact HB.out))⟩; clear BK101 HB hq_; have BK101 := n0_; have HB := n1_; clear n0_ n1_)); have hcz7_0 : w6.cell? ⟨gb101, 0, none⟩ = some (.string (⟨#[]⟩ : ByteArray)) := (blk_cell BK101.out 0).trans rfl; have hcz7_1 : w6.cell? ⟨gb101, 1, none⟩ = some (.string (⟨#[]⟩ : ByteArray)) := (blk_cell BK101.out 1).trans rfl; have hcz7_2 : w6.cell? ⟨gb101, 2, none⟩ = some (.slice none 0 0) := (blk_cell BK101.out 2).trans rfl; have hfz7_0 := blk_frozen BK101.out 0; have hfz7_1 := blk_frozen BK101.out 1; have hfz7_2 := blk_frozen BK101.out 2))
    refine bodyPost_ret (results_ct rfl _ _ gb101 24 #[.string (⟨#[]⟩ : ByteArray), .string (⟨#[]⟩ : ByteArray), .slice none 0 0] (0, 0) _ rfl (by (with_reducible repeat (first | refine blk_drewN ?_ _ | refine blk_drew ?_ | refine blk_alloc ?_ _)); refine blk_put (cs := #[.string (⟨#[]⟩ : ByteArray), .string (⟨#[]⟩ : ByteArray), .slice none 0 0]) ?_ 2 _ rfl; (with_reducible repeat (first | refine blk_drewN ?_ _ | refine blk_drew ?_ | refine blk_alloc ?_ _)); refine blk_put (cs := #[.string (⟨#[]⟩ : ByteArray), .string (⟨#[]⟩ : ByteArray), .slice none 0 0]) ?_ 1 _ rfl; (with_reducible repeat (first | refine blk_drewN ?_ _ | refine blk_drew ?_ | refine blk_alloc ?_ _)); refine blk_put (cs := #[.string (⟨#[]⟩ : ByteArray), .string (⟨#[]⟩ : ByteArray), .slice none 0 0]) ?_ 0 _ rfl; (with_reducible repeat (first | refine blk_drewN ?_ _ | refine blk_drew ?_ | refine blk_alloc ?_ _)); exact BK101.out) Try.underlying24 rfl (by kernel_rfl)) rfl ?_
    exact ⟨_, by first | rfl | (simp [errW_none, errW_some] <;> rfl) | (simp [*, errW_none, errW_some] <;> rfl), by first | exact Kd.S_nil _ _ _ _ _ | exact Kd.N_nil _ _ _ _ _ | exact Kd.V_nil _ _ _ _ _ | exact Kd.Q_nil _ _ _ _ _ | exact Kd.R_nil _ _ _ _ _, by repeat (first | (with_reducible first | exact HB.out | apply below_alloc | apply pw_below_drewN | apply below_drew1 | refine below_set ?_ GE101.out) | exact HB.out)⟩
end
section
attribute [local go_sem] max2_int min2_int max_two min_two max_three min_three max_four min_four
mutual
def impl_NewMeeting.j0 : Nat → Int → ByteArray → Bool → ByteArray → ByteArray → List (S67) → Option (ByteArray × ByteArray × (List (S67)) × (List (S51)) × Bool)
  | 0, _, _, _, _, _, _ => none
  | k + 1, x0, x1, x24, x109000, x109001, x109002 => if x24 = true then (some ((⟨#[]⟩ : ByteArray), (⟨#[]⟩ : ByteArray), ([] : List (S67)), ([] : List (S51)), false)) else (impl_NewMeeting.l0 k x1 x0 0 x109000 x109001 x109002 ([] : List (S51)))
def impl_NewMeeting.l0 : Nat → ByteArray → Int → Int → ByteArray → ByteArray → List (S67) → List (S51) → Option (ByteArray × ByteArray × (List (S67)) × (List (S51)) × Bool)
  | 0, _, _, _, _, _, _, _ => none
  | k + 1, x1, x28, x29, x110000, x110001, x110002, x110003 => if x29 < x28 then (if x110003.length < 1353245080339 then (impl_NewMeeting.l0 k x1 x28 (wrap64 (x29 + 1)) x110000 x110001 x110002 (x110003 ++ [(⟨x29, x1, 0, 0, false, ([] : List (S86)), ([] : List (S86)), false⟩ : S51)])) else (none)) else (some (x110000, x110001, x110002, x110003, true))
end
def impl_NewMeeting.f (k : Nat) (a0 : Int) (a1 : ByteArray) : Option (ByteArray × ByteArray × (List (S67)) × (List (S51)) × Bool) := (impl_NewServer.f k a1).bind fun bt102 => (if bt102.2.2.2 = true then (if a0 < 1 then (impl_NewMeeting.j0 k a0 a1 true bt102.1 bt102.2.1 bt102.2.2.1) else (impl_NewMeeting.j0 k a0 a1 (decide (a0 > 4)) bt102.1 bt102.2.1 bt102.2.2.1)) else (impl_NewMeeting.j0 k a0 a1 true bt102.1 bt102.2.1 bt102.2.2.1))
set_option maxHeartbeats 8000000 in
set_option maxRecDepth 100000 in
theorem impl_NewMeeting.calls (k : Nat) (a0 : Int) (a1 : ByteArray) (r1 : ByteArray) (r2 : ByteArray) (r3 : List (S67)) (r4 : List (S51)) (r5 : Bool) (w : World) (h : impl_NewMeeting.f k a0 a1 = some (r1, r2, r3, r4, r5)) :
    Calls Try.prog 7 #[.int .i64 a0, .string a1] w fun e w' => ∃ v2_ v3_ : Value, e = .returned (.tuple #[.agg #[.string r1, .string r2, v2_, v3_], .bool r5]) ∧ Kd.S k67 67 w' w.heap.size (fun _ => True) v2_ r3 ∧ Kd.S k51 51 w' w.heap.size (fun _ => True) v3_ r4 ∧ Below w.heap.size w w' := by
  have hu27 := Try.underlying27
  have hu24 := Try.underlying24
  have hu51 := Try.underlying51
  have HB := mz (Below.refl w.heap.size w)
  have H : ((impl_NewServer.f k a1).bind fun bt102 => (if bt102.2.2.2 = true then (if a0 < 1 then (impl_NewMeeting.j0 k a0 a1 true bt102.1 bt102.2.1 bt102.2.2.1) else (impl_NewMeeting.j0 k a0 a1 (decide (a0 > 4)) bt102.1 bt102.2.1 bt102.2.2.1)) else (impl_NewMeeting.j0 k a0 a1 true bt102.1 bt102.2.1 bt102.2.2.1))) = some (r1, r2, r3, r4, r5) := h
  clear h
  replace H := be0_ H
  obtain ⟨⟨t102, t103, t104, t107⟩, A30, H⟩ := H
  replace H : (if t107 = true then (if a0 < 1 then (impl_NewMeeting.j0 k a0 a1 true t102 t103 t104) else (impl_NewMeeting.j0 k a0 a1 (decide (a0 > 4)) t102 t103 t104)) else (impl_NewMeeting.j0 k a0 a1 true t102 t103 t104)) = some (r1, r2, r3, r4, r5) := H
  have A3 := mz A30
  clear A30
  have HC4 := mz H
  clear H
  go_enter Try.func7, Try.ntmps7
  go_upto_region 2 with (first | ((with_reducible refine gate_dst (N := 4) rfl ?_); refine box_event ?hg (N := 4) ?hd (cs := #[.string (⟨#[]⟩ : ByteArray), .string (⟨#[]⟩ : ByteArray), .slice none 0 0, .slice none 0 0]) (t := 27) ?hr ?_; (case hd => rfl); (case hg => rfl); (case hr => first | (go_simp; done) | (go_simp; rfl)); intro gb101 hg w5 hbox hb; have n0_ := mz (below_step (by repeat (first | (with_reducible first | exact HB.out | apply below_alloc | apply pw_below_drewN | apply below_drew1) | exact HB.out)) hb); have n1_ := mz (hbox); have n2_ := mz ((by rw [hg]; exact (below_size (by repeat (first | (with_reducible first | exact HB.out | apply below_alloc | apply pw_below_drewN | apply below_drew1) | exact HB.out))) : w.heap.size ≤ gb101)); have n3_ := mz ((by rw [hg]; exact (below_size (by repeat (first | (with_reducible first | exact HB.out | apply below_alloc | apply pw_below_drewN | apply below_drew1) | exact HB.out))) : w.heap.size ≤ gb101)); clear HB; have HB := n0_; have BK101 := n1_; have GW101 := n2_; have GE101 := n3_; clear n0_ n1_ n2_ n3_; clear hb hbox hg) | ((with_reducible refine gate_callee (f := 19) rfl ?_); refine goesL_ (some 12) rfl rfl Try.func19 (by kernel_rfl) rfl #[.string a1] rfl (by (try simp only [List.map_toArray, List.map_cons, List.map_nil]); first | done | rfl | (simp only [List.length_drop, List.length_take]; rfl)) ?_; (with_reducible refine (impl_NewServer.calls k a1 t102 t103 t104 t107 _ A3.out).mono ?_); rintro e w6 ⟨v105, rfl, ho0, hb⟩; refine ⟨_, rfl, ?_⟩; have n0_ := mz (Kd.S_lower ho0 (below_size (by repeat (first | (with_reducible first | exact HB.out | apply below_alloc | apply pw_below_drewN | apply below_drew1 | refine below_set ?_ GE101.out) | exact HB.out)))); have n1_ := mz (blk_below (g := gb101) (o := .cells #[.string (⟨#[]⟩ : ByteArray), .string (⟨#[]⟩ : ByteArray), .slice none 0 0, .slice none 0 0] 27 (0, 0)) (by (with_reducible repeat (first | refine blk_drewN ?_ _ | refine blk_drew ?_ | refine blk_alloc ?_ _)); exact BK101.out) hb); have n2_ := mz (below_step (by repeat (first | (with_reducible first | exact HB.out | apply below_alloc | apply pw_below_drewN | apply below_drew1 | refine below_set ?_ GE101.out) | exact HB.out)) hb); clear BK101; clear HB; have HO106 := n0_; have BK101 := n1_; have HB := n2_; clear n0_ n1_ n2_; (try clear hb); (try clear hb2); (try clear hk); (try clear hi); (try clear ho0)) | ((with_reducible refine gate_dst (N := 6) rfl ?_); refine box_event ?hg (N := 6) ?hd (cs := #[.string (⟨#[]⟩ : ByteArray), .string (⟨#[]⟩ : ByteArray), .slice none 0 0]) (t := 24) ?hr ?_; (case hd => rfl); (case hg => rfl); (case hr => first | (go_simp; done) | (go_simp; rfl)); intro gb108 hg w7 hbox hb; have n0_ := mz (Kd.S_below (by (with_reducible repeat (first | apply Kd.S_alloc | apply Kd.S_drewN | apply Kd.S_drew)); exact HO106.out) hb); have n1_ := mz (blk_below (g := gb101) (o := .cells #[.string (⟨#[]⟩ : ByteArray), .string (⟨#[]⟩ : ByteArray), .slice none 0 0, .slice none 0 0] 27 (0, 0)) (by (with_reducible repeat (first | refine blk_drewN ?_ _ | refine blk_drew ?_ | refine blk_alloc ?_ _)); exact BK101.out) hb); have n2_ := mz (below_step (by repeat (first | (with_reducible first | exact HB.out | apply below_alloc | apply pw_below_drewN | apply below_drew1 | refine below_set ?_ GE101.out) | exact HB.out)) hb); have n3_ := mz (hbox); have n4_ := mz ((by rw [hg]; exact (below_size (by repeat (first | (with_reducible first | exact HB.out | apply below_alloc | apply pw_below_drewN | apply below_drew1 | refine below_set ?_ GE101.out) | exact HB.out))) : w.heap.size ≤ gb108)); have n5_ := mz ((by rw [hg]; exact (below_size (by repeat (first | (with_reducible first | exact HB.out | apply below_alloc | apply pw_below_drewN | apply below_drew1 | refine below_set ?_ GE101.out) | exact HB.out))) : w.heap.size ≤ gb108)); have n6_ := mz ((by rw [hg]; exact Nat.ne_of_lt (blk_lt (g := gb101) (o := .cells #[.string (⟨#[]⟩ : ByteArray), .string (⟨#[]⟩ : ByteArray), .slice none 0 0, .slice none 0 0] 27 (0, 0)) (by (with_reducible repeat (first | refine blk_drewN ?_ _ | refine blk_drew ?_ | refine blk_alloc ?_ _)); exact BK101.out)) : gb101 ≠ gb108)); have n7_ := mz ((by rw [hg]; exact Nat.ne_of_gt (blk_lt (g := gb101) (o := .cells #[.string (⟨#[]⟩ : ByteArray), .string (⟨#[]⟩ : ByteArray), .slice none 0 0, .slice none 0 0] 27 (0, 0)) (by (with_reducible repeat (first | refine blk_drewN ?_ _ | refine blk_drew ?_ | refine blk_alloc ?_ _)); exact BK101.out)) : gb108 ≠ gb101)); clear HO106; clear BK101; clear HB; have HO106 := n0_; have BK101 := n1_; have HB := n2_; have BK108 := n3_; have GW108 := n4_; have GE108 := n5_; have NB101_108 := n6_; have NB108_101 := n7_; clear n0_ n1_ n2_ n3_ n4_ n5_ n6_ n7_; clear hb hbox hg; have hnb8 := NB108_101.out; have hnc8 := NB101_108.out; have hcz9_0 : w7.cell? ⟨gb108, 0, none⟩ = some (.string (⟨#[]⟩ : ByteArray)) := (blk_cell BK108.out 0).trans rfl; have hcz9_1 : w7.cell? ⟨gb108, 1, none⟩ = some (.string (⟨#[]⟩ : ByteArray)) := (blk_cell BK108.out 1).trans rfl; have hcz9_2 : w7.cell? ⟨gb108, 2, none⟩ = some (.slice none 0 0) := (blk_cell BK108.out 2).trans rfl; have hfz9_0 := blk_frozen BK108.out 0; have hfz9_1 := blk_frozen BK108.out 1; have hfz9_2 := blk_frozen BK108.out 2; obtain ⟨Ao10, co10, eo10⟩ := Kd.S_slice HO106.out; subst eo10))
  (try simp only [Act.put, List.setIfInBounds_toArray, List.set_cons_zero, List.set_cons_succ])
  go_cut [24] (fun v24 wc => ∃ (kq : Nat) (x24_3 : Bool), v24 = .bool x24_3 ∧ Aside0 (impl_NewMeeting.j0 kq a0 a1 x24_3 t102 t103 t104 = some (r1, r2, r3, r4, r5)) ∧ Aside0 (kq ≤ k) ∧ Aside0 (Kd.S k67 67 wc w.heap.size (fun _ => True) (.slice Ao10 t104.length co10) t104) ∧ Aside0 (wc.heap[gb101]? = some (.cells #[.string (⟨#[]⟩ : ByteArray), .string (⟨#[]⟩ : ByteArray), (.slice none 0 0), (.slice none 0 0)] 27 (0, 0))) ∧ Aside0 (wc.heap[gb108]? = some (.cells #[.string t102, .string t103, (.slice Ao10 t104.length co10)] 24 (0, 0))) ∧ Aside0 (Below w.heap.size w wc))
  case first =>
    have H := HC4.out
    clear HC4
    by_cases c11 : t107 = true
    · subst c11
      have H1 : (if a0 < 1 then (impl_NewMeeting.j0 k a0 a1 true t102 t103 t104) else (impl_NewMeeting.j0 k a0 a1 (decide (a0 > 4)) t102 t103 t104)) = some (r1, r2, r3, r4, r5) := by rw [if_pos rfl] at H; exact H
      clear H
      have H := H1
      clear H1
      by_cases c12 : a0 < 1
      · rw [if_pos c12] at H
        have c12b0 : decide (a0 < 1) = true := decide_eq_true c12
        clear c12
        (first | rw [c12b0] | (simp only [i64_w, i32_w]; rw [c12b0]) | skip)
        have H' := mz H
        clear H
        go_wp2
        go_meet
        case rel => exact ⟨_, (true), (by first | rfl | (simp; done) | (simp [*]; done)), H', ⟨by first | omega | exact Nat.le_refl _⟩, ⟨by (with_reducible repeat (first | apply Kd.S_alloc | apply Kd.S_drewN | apply Kd.S_drew)); exact Kd.S_mono (Kd.S_far (p := ⟨gb108, 2, none⟩) (Kd.S_far (p := ⟨gb108, 1, none⟩) (Kd.S_far (p := ⟨gb108, 0, none⟩) (Kd.S_types HO106.out BK108.out (by decide)) (fun _ hk => hk.2) (.string t102)) (fun _ hk => hk.2) (.string t103)) (fun _ hk => hk.2) (.slice Ao10 t104.length co10)) (fun _ hk => trivial)⟩, ⟨by (with_reducible repeat (first | refine blk_drewN ?_ _ | refine blk_drew ?_ | refine blk_alloc ?_ _)); refine blk_far ?_ NB101_108.out _; (with_reducible repeat (first | refine blk_drewN ?_ _ | refine blk_drew ?_ | refine blk_alloc ?_ _)); refine blk_far ?_ NB101_108.out _; (with_reducible repeat (first | refine blk_drewN ?_ _ | refine blk_drew ?_ | refine blk_alloc ?_ _)); refine blk_far ?_ NB101_108.out _; (with_reducible repeat (first | refine blk_drewN ?_ _ | refine blk_drew ?_ | refine blk_alloc ?_ _)); exact BK101.out⟩, ⟨by (with_reducible repeat (first | refine blk_drewN ?_ _ | refine blk_drew ?_ | refine blk_alloc ?_ _)); refine blk_put (cs := #[.string t102, .string t103, .slice none 0 0]) ?_ 2 _ rfl; (with_reducible repeat (first | refine blk_drewN ?_ _ | refine blk_drew ?_ | refine blk_alloc ?_ _)); refine blk_put (cs := #[.string t102, .string (⟨#[]⟩ : ByteArray), .slice none 0 0]) ?_ 1 _ rfl; (with_reducible repeat (first | refine blk_drewN ?_ _ | refine blk_drew ?_ | refine blk_alloc ?_ _)); refine blk_put (cs := #[.string (⟨#[]⟩ : ByteArray), .string (⟨#[]⟩ : ByteArray), .slice none 0 0]) ?_ 0 _ rfl; (with_reducible repeat (first | refine blk_drewN ?_ _ | refine blk_drew ?_ | refine blk_alloc ?_ _)); exact BK108.out⟩, ⟨by repeat (first | (with_reducible first | exact HB.out | apply below_alloc | apply pw_below_drewN | apply below_drew1 | refine below_set ?_ GE101.out | refine below_set ?_ GE108.out) | exact HB.out)⟩⟩
      · rw [if_neg c12] at H
        have c12b0 : decide (a0 < 1) = false := decide_eq_false c12
        clear c12
        (first | rw [c12b0] | (simp only [i64_w, i32_w]; rw [c12b0]) | skip)
        have H' := mz H
        clear H
        go_wp2
        go_meet
        case rel => exact ⟨_, (decide (a0 > 4)), (by first | rfl | (simp; done) | (simp [*]; done)), H', ⟨by first | omega | exact Nat.le_refl _⟩, ⟨by (with_reducible repeat (first | apply Kd.S_alloc | apply Kd.S_drewN | apply Kd.S_drew)); exact Kd.S_mono (Kd.S_far (p := ⟨gb108, 2, none⟩) (Kd.S_far (p := ⟨gb108, 1, none⟩) (Kd.S_far (p := ⟨gb108, 0, none⟩) (Kd.S_types HO106.out BK108.out (by decide)) (fun _ hk => hk.2) (.string t102)) (fun _ hk => hk.2) (.string t103)) (fun _ hk => hk.2) (.slice Ao10 t104.length co10)) (fun _ hk => trivial)⟩, ⟨by (with_reducible repeat (first | refine blk_drewN ?_ _ | refine blk_drew ?_ | refine blk_alloc ?_ _)); refine blk_far ?_ NB101_108.out _; (with_reducible repeat (first | refine blk_drewN ?_ _ | refine blk_drew ?_ | refine blk_alloc ?_ _)); refine blk_far ?_ NB101_108.out _; (with_reducible repeat (first | refine blk_drewN ?_ _ | refine blk_drew ?_ | refine blk_alloc ?_ _)); refine blk_far ?_ NB101_108.out _; (with_reducible repeat (first | refine blk_drewN ?_ _ | refine blk_drew ?_ | refine blk_alloc ?_ _)); exact BK101.out⟩, ⟨by (with_reducible repeat (first | refine blk_drewN ?_ _ | refine blk_drew ?_ | refine blk_alloc ?_ _)); refine blk_put (cs := #[.string t102, .string t103, .slice none 0 0]) ?_ 2 _ rfl; (with_reducible repeat (first | refine blk_drewN ?_ _ | refine blk_drew ?_ | refine blk_alloc ?_ _)); refine blk_put (cs := #[.string t102, .string (⟨#[]⟩ : ByteArray), .slice none 0 0]) ?_ 1 _ rfl; (with_reducible repeat (first | refine blk_drewN ?_ _ | refine blk_drew ?_ | refine blk_alloc ?_ _)); refine blk_put (cs := #[.string (⟨#[]⟩ : ByteArray), .string (⟨#[]⟩ : ByteArray), .slice none 0 0]) ?_ 0 _ rfl; (with_reducible repeat (first | refine blk_drewN ?_ _ | refine blk_drew ?_ | refine blk_alloc ?_ _)); exact BK108.out⟩, ⟨by repeat (first | (with_reducible first | exact HB.out | apply below_alloc | apply pw_below_drewN | apply below_drew1 | refine below_set ?_ GE101.out | refine below_set ?_ GE108.out) | exact HB.out)⟩⟩
    · replace c11 := Bool.eq_false_iff.mpr c11
      subst c11
      have H1 : (impl_NewMeeting.j0 k a0 a1 true t102 t103 t104) = some (r1, r2, r3, r4, r5) := by rw [if_neg (show ¬ (false = true) by decide)] at H; exact H
      clear H
      have H := H1
      clear H1
      have H' := mz H
      clear H
      go_wp2
      go_meet
      case rel => exact ⟨_, (true), (by first | rfl | (simp; done) | (simp [*]; done)), H', ⟨by first | omega | exact Nat.le_refl _⟩, ⟨by (with_reducible repeat (first | apply Kd.S_alloc | apply Kd.S_drewN | apply Kd.S_drew)); exact Kd.S_mono (Kd.S_far (p := ⟨gb108, 2, none⟩) (Kd.S_far (p := ⟨gb108, 1, none⟩) (Kd.S_far (p := ⟨gb108, 0, none⟩) (Kd.S_types HO106.out BK108.out (by decide)) (fun _ hk => hk.2) (.string t102)) (fun _ hk => hk.2) (.string t103)) (fun _ hk => hk.2) (.slice Ao10 t104.length co10)) (fun _ hk => trivial)⟩, ⟨by (with_reducible repeat (first | refine blk_drewN ?_ _ | refine blk_drew ?_ | refine blk_alloc ?_ _)); refine blk_far ?_ NB101_108.out _; (with_reducible repeat (first | refine blk_drewN ?_ _ | refine blk_drew ?_ | refine blk_alloc ?_ _)); refine blk_far ?_ NB101_108.out _; (with_reducible repeat (first | refine blk_drewN ?_ _ | refine blk_drew ?_ | refine blk_alloc ?_ _)); refine blk_far ?_ NB101_108.out _; (with_reducible repeat (first | refine blk_drewN ?_ _ | refine blk_drew ?_ | refine blk_alloc ?_ _)); exact BK101.out⟩, ⟨by (with_reducible repeat (first | refine blk_drewN ?_ _ | refine blk_drew ?_ | refine blk_alloc ?_ _)); refine blk_put (cs := #[.string t102, .string t103, .slice none 0 0]) ?_ 2 _ rfl; (with_reducible repeat (first | refine blk_drewN ?_ _ | refine blk_drew ?_ | refine blk_alloc ?_ _)); refine blk_put (cs := #[.string t102, .string (⟨#[]⟩ : ByteArray), .slice none 0 0]) ?_ 1 _ rfl; (with_reducible repeat (first | refine blk_drewN ?_ _ | refine blk_drew ?_ | refine blk_alloc ?_ _)); refine blk_put (cs := #[.string (⟨#[]⟩ : ByteArray), .string (⟨#[]⟩ : ByteArray), .slice none 0 0]) ?_ 0 _ rfl; (with_reducible repeat (first | refine blk_drewN ?_ _ | refine blk_drew ?_ | refine blk_alloc ?_ _)); exact BK108.out⟩, ⟨by repeat (first | (with_reducible first | exact HB.out | apply below_alloc | apply pw_below_drewN | apply below_drew1 | refine below_set ?_ GE101.out | refine below_set ?_ GE108.out) | exact HB.out)⟩⟩
  case rest =>
    clear HC4
    try clear c1
    try clear p2
    try clear c7
    try clear c8
    try clear c11
    try clear c12
    try clear c12b0
    try clear hcz9_0
    try clear hcz9_1
    try clear hcz9_2
    try clear hfz9_0
    try clear hfz9_1
    try clear hfz9_2
    obtain ⟨kq, x24_3, rfl, HA, HJ3, HO_109002, BK101, BK108, HB⟩ := hcut
    cases kq with
    | zero => exact absurd HA.out (by simp [impl_NewMeeting.j0])
    | succ kj3 =>
      have H := HA.out
      clear HA
      simp only [impl_NewMeeting.j0] at H
      by_cases c13 : x24_3 = true
      · subst c13
        have H1 : (some ((⟨#[]⟩ : ByteArray), (⟨#[]⟩ : ByteArray), ([] : List (S67)), ([] : List (S51)), false)) = some (r1, r2, r3, r4, r5) := by rw [if_pos rfl] at H; exact H
        clear H
        have H := H1
        clear H1
        simp only [Option.some.injEq, Prod.mk.injEq] at H
        obtain ⟨rfl, rfl, rfl, rfl, rfl⟩ := H
        have hnb14 := NB101_108.out
        have hnc14 := NB108_101.out
        have hcz15_0 : wc.cell? ⟨gb101, 0, none⟩ = some (.string (⟨#[]⟩ : ByteArray)) := (blk_cell BK101.out 0).trans rfl
        have hcz15_1 : wc.cell? ⟨gb101, 1, none⟩ = some (.string (⟨#[]⟩ : ByteArray)) := (blk_cell BK101.out 1).trans rfl
        have hcz15_2 : wc.cell? ⟨gb101, 2, none⟩ = some (.slice none 0 0) := (blk_cell BK101.out 2).trans rfl
        have hcz15_3 : wc.cell? ⟨gb101, 3, none⟩ = some (.slice none 0 0) := (blk_cell BK101.out 3).trans rfl
        have hfz15_0 := blk_frozen BK101.out 0
        have hfz15_1 := blk_frozen BK101.out 1
        have hfz15_2 := blk_frozen BK101.out 2
        have hfz15_3 := blk_frozen BK101.out 3
        go_wp2
        refine bodyPost_ret (results_ct rfl _ _ gb101 27 #[.string (⟨#[]⟩ : ByteArray), .string (⟨#[]⟩ : ByteArray), .slice none 0 0, .slice none 0 0] (0, 0) _ rfl (by (with_reducible repeat (first | refine blk_drewN ?_ _ | refine blk_drew ?_ | refine blk_alloc ?_ _)); refine blk_put (cs := #[.string (⟨#[]⟩ : ByteArray), .string (⟨#[]⟩ : ByteArray), .slice none 0 0, .slice none 0 0]) ?_ 3 _ rfl; (with_reducible repeat (first | refine blk_drewN ?_ _ | refine blk_drew ?_ | refine blk_alloc ?_ _)); refine blk_put (cs := #[.string (⟨#[]⟩ : ByteArray), .string (⟨#[]⟩ : ByteArray), .slice none 0 0, .slice none 0 0]) ?_ 2 _ rfl; (with_reducible repeat (first | refine blk_drewN ?_ _ | refine blk_drew ?_ | refine blk_alloc ?_ _)); refine blk_put (cs := #[.string (⟨#[]⟩ : ByteArray), .string (⟨#[]⟩ : ByteArray), .slice none 0 0, .slice none 0 0]) ?_ 1 _ rfl; (with_reducible repeat (first | refine blk_drewN ?_ _ | refine blk_drew ?_ | refine blk_alloc ?_ _)); refine blk_put (cs := #[.string (⟨#[]⟩ : ByteArray), .string (⟨#[]⟩ : ByteArray), .slice none 0 0, .slice none 0 0]) ?_ 0 _ rfl; (with_reducible repeat (first | refine blk_drewN ?_ _ | refine blk_drew ?_ | refine blk_alloc ?_ _)); exact BK101.out) Try.underlying27 rfl (by kernel_rfl)) rfl ?_
        exact ⟨_, _, by first | rfl | (simp [errW_none, errW_some] <;> rfl) | (simp [*, errW_none, errW_some] <;> rfl), by first | exact Kd.S_nil _ _ _ _ _ | exact Kd.N_nil _ _ _ _ _ | exact Kd.V_nil _ _ _ _ _ | exact Kd.Q_nil _ _ _ _ _ | exact Kd.R_nil _ _ _ _ _, by first | exact Kd.S_nil _ _ _ _ _ | exact Kd.N_nil _ _ _ _ _ | exact Kd.V_nil _ _ _ _ _ | exact Kd.Q_nil _ _ _ _ _ | exact Kd.R_nil _ _ _ _ _, by repeat (first | (with_reducible first | exact HB.out | apply below_alloc | apply pw_below_drewN | apply below_drew1 | refine below_set ?_ GE101.out | refine below_set ?_ GE108.out) | exact HB.out)⟩
      · replace c13 := Bool.eq_false_iff.mpr c13
        subst c13
        have H1 : (impl_NewMeeting.l0 kj3 a1 a0 0 t102 t103 t104 ([] : List (S51))) = some (r1, r2, r3, r4, r5) := by rw [if_neg (show ¬ (false = true) by decide)] at H; exact H
        clear H
        have H := H1
        clear H1
        have H' := mz H
        clear H
        have hnb16 := NB108_101.out
        have hnc16 := NB101_108.out
        have hcz17_0 : wc.cell? ⟨gb108, 0, none⟩ = some (.string t102) := (blk_cell BK108.out 0).trans rfl
        have hcz17_1 : wc.cell? ⟨gb108, 1, none⟩ = some (.string t103) := (blk_cell BK108.out 1).trans rfl
        have hcz17_2 : wc.cell? ⟨gb108, 2, none⟩ = some (.slice Ao10 t104.length co10) := (blk_cell BK108.out 2).trans rfl
        have hfz17_0 := blk_frozen BK108.out 0
        have hfz17_1 := blk_frozen BK108.out 1
        have hfz17_2 := blk_frozen BK108.out 2
        go_wp2_with (first | ((with_reducible refine gate_dst (N := 8) rfl ?_); refine box_event ?hg (N := 8) ?hd (cs := #[.string (⟨#[]⟩ : ByteArray), .string (⟨#[]⟩ : ByteArray), .slice none 0 0, .slice none 0 0]) (t := 27) ?hr ?_; (case hd => rfl); (case hg => rfl); (case hr => first | (go_simp; done) | (go_simp; rfl)); intro gb109 hg w18 hbox hb; have n0_ := mz (Kd.S_below (by (with_reducible repeat (first | apply Kd.S_alloc | apply Kd.S_drewN | apply Kd.S_drew)); exact HO_109002.out) hb); have n1_ := mz (blk_below (g := gb101) (o := .cells #[.string (⟨#[]⟩ : ByteArray), .string (⟨#[]⟩ : ByteArray), .slice none 0 0, .slice none 0 0] 27 (0, 0)) (by (with_reducible repeat (first | refine blk_drewN ?_ _ | refine blk_drew ?_ | refine blk_alloc ?_ _)); exact BK101.out) hb); have n2_ := mz (blk_below (g := gb108) (o := .cells #[.string t102, .string t103, .slice Ao10 t104.length co10] 24 (0, 0)) (by (with_reducible repeat (first | refine blk_drewN ?_ _ | refine blk_drew ?_ | refine blk_alloc ?_ _)); exact BK108.out) hb); have n3_ := mz (below_step (by repeat (first | (with_reducible first | exact HB.out | apply below_alloc | apply pw_below_drewN | apply below_drew1 | refine below_set ?_ GE101.out | refine below_set ?_ GE108.out) | exact HB.out)) hb); have n4_ := mz (hbox); have n5_ := mz ((by rw [hg]; exact (below_size (by repeat (first | (with_reducible first | exact HB.out | apply below_alloc | apply pw_below_drewN | apply below_drew1 | refine below_set ?_ GE101.out | refine below_set ?_ GE108.out) | exact HB.out))) : w.heap.size ≤ gb109)); have n6_ := mz ((by rw [hg]; exact (below_size (by repeat (first | (with_reducible first | exact HB.out | apply below_alloc | apply pw_below_drewN | apply below_drew1 | refine below_set ?_ GE101.out | refine below_set ?_ GE108.out) | exact HB.out))) : w.heap.size ≤ gb109)); have n7_ := mz ((by rw [hg]; exact Nat.ne_of_lt (blk_lt (g := gb101) (o := .cells #[.string (⟨#[]⟩ : ByteArray), .string (⟨#[]⟩ : ByteArray), .slice none 0 0, .slice none 0 0] 27 (0, 0)) (by (with_reducible repeat (first | refine blk_drewN ?_ _ | refine blk_drew ?_ | refine blk_alloc ?_ _)); exact BK101.out)) : gb101 ≠ gb109)); have n8_ := mz ((by rw [hg]; exact Nat.ne_of_gt (blk_lt (g := gb101) (o := .cells #[.string (⟨#[]⟩ : ByteArray), .string (⟨#[]⟩ : ByteArray), .slice none 0 0, .slice none 0 0] 27 (0, 0)) (by (with_reducible repeat (first | refine blk_drewN ?_ _ | refine blk_drew ?_ | refine blk_alloc ?_ _)); exact BK101.out)) : gb109 ≠ gb101)); have n9_ := mz ((by rw [hg]; exact Nat.ne_of_lt (blk_lt (g := gb108) (o := .cells #[.string t102, .string t103, .slice Ao10 t104.length co10] 24 (0, 0)) (by (with_reducible repeat (first | refine blk_drewN ?_ _ | refine blk_drew ?_ | refine blk_alloc ?_ _)); exact BK108.out)) : gb108 ≠ gb109)); have n10_ := mz ((by rw [hg]; exact Nat.ne_of_gt (blk_lt (g := gb108) (o := .cells #[.string t102, .string t103, .slice Ao10 t104.length co10] 24 (0, 0)) (by (with_reducible repeat (first | refine blk_drewN ?_ _ | refine blk_drew ?_ | refine blk_alloc ?_ _)); exact BK108.out)) : gb109 ≠ gb108)); clear HO_109002; clear BK101; clear BK108; clear HB; have HO_109002 := n0_; have BK101 := n1_; have BK108 := n2_; have HB := n3_; have BK109 := n4_; have GW109 := n5_; have GE109 := n6_; have NB101_109 := n7_; have NB109_101 := n8_; have NB108_109 := n9_; have NB109_108 := n10_; clear n0_ n1_ n2_ n3_ n4_ n5_ n6_ n7_ n8_ n9_ n10_; clear hb hbox hg; have hnb19 := NB109_101.out; have hnc19 := NB101_109.out; have hnb20 := NB109_108.out; have hnc20 := NB108_109.out; have hcz21_0 : w18.cell? ⟨gb109, 0, none⟩ = some (.string (⟨#[]⟩ : ByteArray)) := (blk_cell BK109.out 0).trans rfl; have hcz21_1 : w18.cell? ⟨gb109, 1, none⟩ = some (.string (⟨#[]⟩ : ByteArray)) := (blk_cell BK109.out 1).trans rfl; have hcz21_2 : w18.cell? ⟨gb109, 2, none⟩ = some (.slice none 0 0) := (blk_cell BK109.out 2).trans rfl; have hcz21_3 : w18.cell? ⟨gb109, 3, none⟩ = some (.slice none 0 0) := (blk_cell BK109.out 3).trans rfl; have hfz21_0 := blk_frozen BK109.out 0; have hfz21_1 := blk_frozen BK109.out 1; have hfz21_2 := blk_frozen BK109.out 2; have hfz21_3 := blk_frozen BK109.out 3))
        go_loopg [29] kj3 (fun kq v29 w' => ∃ (x29_2 : Int) (x110003_2 : List (S51)) (u110003 : Value), v29 = .int .i64 x29_2 ∧ Aside0 (impl_NewMeeting.l0 kq a1 a0 x29_2 t102 t103 t104 x110003_2 = some (r1, r2, r3, r4, r5)) ∧ Aside0 (kq ≤ kj3) ∧ Aside0 (Kd.S k67 67 w' w.heap.size (fun _ => True) (.slice Ao10 t104.length co10) t104) ∧ Aside0 (Kd.S k67 67 w' w.heap.size (fun _ => True) (.slice Ao10 t104.length co10) t104) ∧ Aside0 (Kd.S k51 51 w' w.heap.size (fun _ => True) u110003 x110003_2) ∧ Aside0 (w'.heap[gb101]? = some (.cells #[.string (⟨#[]⟩ : ByteArray), .string (⟨#[]⟩ : ByteArray), (.slice none 0 0), (.slice none 0 0)] 27 (0, 0))) ∧ Aside0 (w'.heap[gb108]? = some (.cells #[.string t102, .string t103, (.slice Ao10 t104.length co10)] 24 (0, 0))) ∧ Aside0 (w'.heap[gb109]? = some (.cells #[.string t102, .string t103, (.slice Ao10 t104.length co10), u110003] 27 (0, 0))) ∧ Aside0 (Below w.heap.size w w'))
        case atStart => exact ⟨(0), (([] : List (S51))), (.slice none 0 0), (by first | rfl | (simp; done) | (simp [*]; done)), H', ⟨Nat.le_refl _⟩, ⟨by (with_reducible repeat (first | apply Kd.S_alloc | apply Kd.S_drewN | apply Kd.S_drew)); exact Kd.S_mono (Kd.S_far (p := ⟨gb109, 3, none⟩) (Kd.S_far (p := ⟨gb109, 2, none⟩) (Kd.S_far (p := ⟨gb109, 1, none⟩) (Kd.S_far (p := ⟨gb109, 0, none⟩) (Kd.S_types HO_109002.out BK109.out (by decide)) (fun _ hk => hk.2) (.string t102)) (fun _ hk => hk.2) (.string t103)) (fun _ hk => hk.2) (.slice Ao10 t104.length co10)) (fun _ hk => hk.2) (.slice none 0 0)) (fun _ hk => trivial)⟩, ⟨by (with_reducible repeat (first | apply Kd.S_alloc | apply Kd.S_drewN | apply Kd.S_drew)); exact Kd.S_mono (Kd.S_far (p := ⟨gb109, 3, none⟩) (Kd.S_far (p := ⟨gb109, 2, none⟩) (Kd.S_far (p := ⟨gb109, 1, none⟩) (Kd.S_far (p := ⟨gb109, 0, none⟩) (Kd.S_types HO_109002.out BK109.out (by decide)) (fun _ hk => hk.2) (.string t102)) (fun _ hk => hk.2) (.string t103)) (fun _ hk => hk.2) (.slice Ao10 t104.length co10)) (fun _ hk => hk.2) (.slice none 0 0)) (fun _ hk => trivial)⟩, ⟨by first | exact Kd.S_nil _ _ _ _ _ | exact Kd.N_nil _ _ _ _ _ | exact Kd.V_nil _ _ _ _ _ | exact Kd.Q_nil _ _ _ _ _ | exact Kd.R_nil _ _ _ _ _⟩, ⟨by (with_reducible repeat (first | refine blk_drewN ?_ _ | refine blk_drew ?_ | refine blk_alloc ?_ _)); refine blk_far ?_ NB101_109.out _; (with_reducible repeat (first | refine blk_drewN ?_ _ | refine blk_drew ?_ | refine blk_alloc ?_ _)); refine blk_far ?_ NB101_109.out _; (with_reducible repeat (first | refine blk_drewN ?_ _ | refine blk_drew ?_ | refine blk_alloc ?_ _)); refine blk_far ?_ NB101_109.out _; (with_reducible repeat (first | refine blk_drewN ?_ _ | refine blk_drew ?_ | refine blk_alloc ?_ _)); refine blk_far ?_ NB101_109.out _; (with_reducible repeat (first | refine blk_drewN ?_ _ | refine blk_drew ?_ | refine blk_alloc ?_ _)); exact BK101.out⟩, ⟨by (with_reducible repeat (first | refine blk_drewN ?_ _ | refine blk_drew ?_ | refine blk_alloc ?_ _)); refine blk_far ?_ NB108_109.out _; (with_reducible repeat (first | refine blk_drewN ?_ _ | refine blk_drew ?_ | refine blk_alloc ?_ _)); refine blk_far ?_ NB108_109.out _; (with_reducible repeat (first | refine blk_drewN ?_ _ | refine blk_drew ?_ | refine blk_alloc ?_ _)); refine blk_far ?_ NB108_109.out _; (with_reducible repeat (first | refine blk_drewN ?_ _ | refine blk_drew ?_ | refine blk_alloc ?_ _)); refine blk_far ?_ NB108_109.out _; (with_reducible repeat (first | refine blk_drewN ?_ _ | refine blk_drew ?_ | refine blk_alloc ?_ _)); exact BK108.out⟩, ⟨by (with_reducible repeat (first | refine blk_drewN ?_ _ | refine blk_drew ?_ | refine blk_alloc ?_ _)); refine blk_put (cs := #[.string t102, .string t103, .slice Ao10 t104.length co10, .slice none 0 0]) ?_ 3 _ rfl; (with_reducible repeat (first | refine blk_drewN ?_ _ | refine blk_drew ?_ | refine blk_alloc ?_ _)); refine blk_put (cs := #[.string t102, .string t103, .slice none 0 0, .slice none 0 0]) ?_ 2 _ rfl; (with_reducible repeat (first | refine blk_drewN ?_ _ | refine blk_drew ?_ | refine blk_alloc ?_ _)); refine blk_put (cs := #[.string t102, .string (⟨#[]⟩ : ByteArray), .slice none 0 0, .slice none 0 0]) ?_ 1 _ rfl; (with_reducible repeat (first | refine blk_drewN ?_ _ | refine blk_drew ?_ | refine blk_alloc ?_ _)); refine blk_put (cs := #[.string (⟨#[]⟩ : ByteArray), .string (⟨#[]⟩ : ByteArray), .slice none 0 0, .slice none 0 0]) ?_ 0 _ rfl; (with_reducible repeat (first | refine blk_drewN ?_ _ | refine blk_drew ?_ | refine blk_alloc ?_ _)); exact BK109.out⟩, ⟨by repeat (first | (with_reducible first | exact HB.out | apply below_alloc | apply pw_below_drewN | apply below_drew1 | refine below_set ?_ GE101.out | refine below_set ?_ GE108.out | refine below_set ?_ GE109.out) | exact HB.out)⟩⟩
        case round =>
          clear H'
          try clear c1
          try clear c2
          try clear p2
          try clear c7
          try clear c8
          try clear c11
          try clear c12
          try clear c12b0
          try clear c13
          try clear c14
          try clear c16
          try clear c19
          try clear c20
          try clear hcz15_0
          try clear hcz15_1
          try clear hcz15_2
          try clear hcz15_3
          try clear hcz17_0
          try clear hcz17_1
          try clear hcz17_2
          try clear hcz21_0
          try clear hcz21_1
          try clear hcz21_2
          try clear hcz21_3
          try clear hcz9_0
          try clear hcz9_1
          try clear hcz9_2
          try clear hfz15_0
          try clear hfz15_1
          try clear hfz15_2
          try clear hfz15_3
          try clear hfz17_0
          try clear hfz17_1
          try clear hfz17_2
          try clear hfz21_0
          try clear hfz21_1
          try clear hfz21_2
          try clear hfz21_3
          try clear hfz9_0
          try clear hfz9_1
          try clear hfz9_2
          try clear p2
          obtain ⟨x29_2, x110003_2, u110003, rfl, HA, HK2, HO_109002, HO_110002, HO_110003, BK101, BK108, BK109, HB⟩ := hrel
          cases gk with
          | zero => exact absurd HA.out (by simp [impl_NewMeeting.l0])
          | succ k2 =>
            have H := HA.out
            clear HA
            simp only [impl_NewMeeting.l0] at H
            by_cases c22 : x29_2 < a0
            · rw [if_pos c22] at H
              have c22b0 : decide (x29_2 < a0) = true := decide_eq_true c22
              clear c22
              by_cases c23 : x110003_2.length < 1353245080339
              · rw [if_pos c23] at H
                have LMc23 := mz c23
                clear c23
                obtain ⟨y110, hy110⟩ : ∃ y_ : List (S51), y_ = (x110003_2 ++ [(⟨x29_2, a1, 0, 0, false, ([] : List (S86)), ([] : List (S86)), false⟩ : S51)]) := ⟨_, rfl⟩
                replace H : (impl_NewMeeting.l0 k2 a1 a0 (wrap64 (x29_2 + 1)) t102 t103 t104 y110) = some (r1, r2, r3, r4, r5) := by first | (rw [hy110]; with_reducible exact H) | (have H2_ := (Option.bind_some _ _).symm.trans H; rw [hy110]; with_reducible exact H2_) | (have H2_ := (Option.bind_some _ _).symm.trans H; with_reducible exact H2_) | with_reducible exact H | (rw [hy110]; exact H) | exact H
                have Ny110 := mz hy110
                clear hy110
                have H' := mz H
                clear H
                have hnb24 := NB109_101.out
                have hnc24 := NB101_109.out
                have hnb25 := NB109_108.out
                have hnc25 := NB108_109.out
                have hcz26_0 : wr.cell? ⟨gb109, 0, none⟩ = some (.string t102) := (blk_cell BK109.out 0).trans rfl
                have hcz26_1 : wr.cell? ⟨gb109, 1, none⟩ = some (.string t103) := (blk_cell BK109.out 1).trans rfl
                have hcz26_2 : wr.cell? ⟨gb109, 2, none⟩ = some (.slice Ao10 t104.length co10) := (blk_cell BK109.out 2).trans rfl
                have hcz26_3 : wr.cell? ⟨gb109, 3, none⟩ = some (u110003) := (blk_cell BK109.out 3).trans rfl
                have hfz26_0 := blk_frozen BK109.out 0
                have hfz26_1 := blk_frozen BK109.out 1
                have hfz26_2 := blk_frozen BK109.out 2
                have hfz26_3 := blk_frozen BK109.out 3
                go_wp2_with (first | ((with_reducible refine gate_builtin (b := .append) (xs := #[.tmp 33, .tmp 37]) rfl ?_); at_builtin; refine Kd.S_append k51 (w0 := w) w.heap.size rfl (.tmp 33) (.tmp 37) 25 51 (.agg #[(.int .i64 0), (.string ⟨#[]⟩), (.int .i64 0), (.int .i64 0), (.bool false), (.slice none 0 0), (.slice none 0 0), (.bool false)]) 104 rfl Try.underlying25 info51 rfl (by decide) (by omega) u110003 x110003_2 (⟨x29_2, a1, 0, 0, false, ([] : List (S86)), ([] : List (S86)), false⟩ : S51) [.int .i64 x29_2, .string a1, .int .i64 0, .int .i64 0, .bool false, .slice none 0 0, .slice none 0 0, .bool false] (fun _ => True) (fun _ => False) rfl rfl ?aP (fun k_ hk_ => hk_.elim) ?aF ?aO ?aB ?aS ?aL ?_; (case aP => exact k51_mkM _ _ _ (⟨x29_2, a1, 0, 0, false, ([] : List (S86)), ([] : List (S86)), false⟩ : S51) (Kd.R_nil _ _ _ _ _) (Kd.R_nil _ _ _ _ _)); (case aB => exact (by repeat (first | (with_reducible first | exact HB.out | apply below_alloc | apply pw_below_drewN | apply below_drew1 | refine below_set ?_ GE101.out | refine below_set ?_ GE108.out | refine below_set ?_ GE109.out) | exact HB.out))); (case aF => exact (fun _ _ => trivial)); (case aO => exact (by (with_reducible repeat (first | apply Kd.S_alloc | apply Kd.S_drewN | apply Kd.S_drew)); exact Kd.S_mono HO_110003.out (fun k_ hk => ⟨trivial, fun e_ => e_⟩))); (case aS => exact (below_size (by repeat (first | (with_reducible first | exact HB.out | apply below_alloc | apply pw_below_drewN | apply below_drew1 | refine below_set ?_ GE101.out | refine below_set ?_ GE108.out | refine below_set ?_ GE109.out) | exact HB.out)))); (case aL => have := LMc23.out; omega); intro v111 w27 ho hb hg hat; rw [← Ny110.out] at ho; have n0_ := mz (Kd.S_over' (by (with_reducible repeat (first | apply Kd.S_alloc | apply Kd.S_drewN | apply Kd.S_drew)); exact HO_109002.out) (Kd.S_typed (by (with_reducible repeat (first | apply Kd.S_alloc | apply Kd.S_drewN | apply Kd.S_drew)); exact HO_110003.out)) (by decide) hg); have n1_ := mz (Kd.S_over' (by (with_reducible repeat (first | apply Kd.S_alloc | apply Kd.S_drewN | apply Kd.S_drew)); exact HO_110002.out) (Kd.S_typed (by (with_reducible repeat (first | apply Kd.S_alloc | apply Kd.S_drewN | apply Kd.S_drew)); exact HO_110003.out)) (by decide) hg); have n2_ := mz (blk_grown (g := gb101) (o := .cells #[.string (⟨#[]⟩ : ByteArray), .string (⟨#[]⟩ : ByteArray), .slice none 0 0, .slice none 0 0] 27 (0, 0)) (by (with_reducible repeat (first | refine blk_drewN ?_ _ | refine blk_drew ?_ | refine blk_alloc ?_ _)); exact BK101.out) hg (Kd.S_ne HO_110003.out BK101.out (by decide))); have n3_ := mz (blk_grown (g := gb108) (o := .cells #[.string t102, .string t103, .slice Ao10 t104.length co10] 24 (0, 0)) (by (with_reducible repeat (first | refine blk_drewN ?_ _ | refine blk_drew ?_ | refine blk_alloc ?_ _)); exact BK108.out) hg (Kd.S_ne HO_110003.out BK108.out (by decide))); have n4_ := mz (blk_grown (g := gb109) (o := .cells #[.string t102, .string t103, .slice Ao10 t104.length co10, u110003] 27 (0, 0)) (by (with_reducible repeat (first | refine blk_drewN ?_ _ | refine blk_drew ?_ | refine blk_alloc ?_ _)); exact BK109.out) hg (Kd.S_ne HO_110003.out BK109.out (by decide))); have n5_ := mz (hb); have n6_ := mz (ho); clear HO_109002; clear HO_110002; clear BK101; clear BK108; clear BK109; clear HB; clear HO_110003; have HO_109002 := n0_; have HO_110002 := n1_; have BK101 := n2_; have BK108 := n3_; have BK109 := n4_; have HB := n5_; have HO112 := n6_; clear n0_ n1_ n2_ n3_ n4_ n5_ n6_; clear ho hb hg hat; obtain ⟨Ao28, co28, eo28⟩ := Kd.S_slice HO112.out; subst eo28; have hcz29_0 : w27.cell? ⟨gb109, 0, none⟩ = some (.string t102) := (blk_cell BK109.out 0).trans rfl; have hcz29_1 : w27.cell? ⟨gb109, 1, none⟩ = some (.string t103) := (blk_cell BK109.out 1).trans rfl; have hcz29_2 : w27.cell? ⟨gb109, 2, none⟩ = some (.slice Ao10 t104.length co10) := (blk_cell BK109.out 2).trans rfl; have hcz29_3 : w27.cell? ⟨gb109, 3, none⟩ = some (u110003) := (blk_cell BK109.out 3).trans rfl; have hfz29_0 := blk_frozen BK109.out 0; have hfz29_1 := blk_frozen BK109.out 1; have hfz29_2 := blk_frozen BK109.out 2; have hfz29_3 := blk_frozen BK109.out 3))
                go_roundg k2
                case measure => have := HJ3.out; have := HK2.out; omega
                case rel => exact ⟨(wrap64 (x29_2 + 1)), (y110), (.slice Ao28 y110.length co28), (by first | rfl | (simp; done) | (simp [*]; done)), H', ⟨by have := HJ3.out; have := HK2.out; omega⟩, ⟨by (with_reducible repeat (first | apply Kd.S_alloc | apply Kd.S_drewN | apply Kd.S_drew)); exact Kd.S_mono (Kd.S_far (p := ⟨gb109, 3, none⟩) (Kd.S_types HO_109002.out BK109.out (by decide)) (fun _ hk => hk.2) (.slice Ao28 y110.length co28)) (fun _ hk => trivial)⟩, ⟨by (with_reducible repeat (first | apply Kd.S_alloc | apply Kd.S_drewN | apply Kd.S_drew)); exact Kd.S_mono (Kd.S_far (p := ⟨gb109, 3, none⟩) (Kd.S_types HO_110002.out BK109.out (by decide)) (fun _ hk => hk.2) (.slice Ao28 y110.length co28)) (fun _ hk => trivial)⟩, ⟨by (with_reducible repeat (first | apply Kd.S_alloc | apply Kd.S_drewN | apply Kd.S_drew)); exact Kd.S_mono (Kd.S_far (p := ⟨gb109, 3, none⟩) (Kd.S_types HO112.out BK109.out (by decide)) (fun _ hk => hk.2) (.slice Ao28 y110.length co28)) (fun _ hk => trivial)⟩, ⟨by (with_reducible repeat (first | refine blk_drewN ?_ _ | refine blk_drew ?_ | refine blk_alloc ?_ _)); refine blk_far ?_ NB101_109.out _; (with_reducible repeat (first | refine blk_drewN ?_ _ | refine blk_drew ?_ | refine blk_alloc ?_ _)); exact BK101.out⟩, ⟨by (with_reducible repeat (first | refine blk_drewN ?_ _ | refine blk_drew ?_ | refine blk_alloc ?_ _)); refine blk_far ?_ NB108_109.out _; (with_reducible repeat (first | refine blk_drewN ?_ _ | refine blk_drew ?_ | refine blk_alloc ?_ _)); exact BK108.out⟩, ⟨by (with_reducible repeat (first | refine blk_drewN ?_ _ | refine blk_drew ?_ | refine blk_alloc ?_ _)); refine blk_put (cs := #[.string t102, .string t103, .slice Ao10 t104.length co10, u110003]) ?_ 3 _ rfl; (with_reducible repeat (first | refine blk_drewN ?_ _ | refine blk_drew ?_ | refine blk_alloc ?_ _)); exact BK109.out⟩, ⟨by repeat (first | (with_reducible first | exact HB.out | apply below_alloc | apply pw_below_drewN | apply below_drew1 | refine below_set ?_ GE101.out | refine below_set ?_ GE108.out | refine below_set ?_ GE109.out) | exact HB.out)⟩⟩
              · rw [if_neg c23] at H
                exact absurd H (by simp)
            · rw [if_neg c22] at H
              have c22b0 : decide (x29_2 < a0) = false := decide_eq_false c22
              clear c22
              simp only [Option.some.injEq, Prod.mk.injEq] at H
              obtain ⟨rfl, rfl, rfl, rfl, rfl⟩ := H
              have hnb30 := NB109_101.out
              have hnc30 := NB101_109.out
              have hnb31 := NB109_108.out
              have hnc31 := NB108_109.out
              have hcz32_0 : wr.cell? ⟨gb109, 0, none⟩ = some (.string t102) := (blk_cell BK109.out 0).trans rfl
              have hcz32_1 : wr.cell? ⟨gb109, 1, none⟩ = some (.string t103) := (blk_cell BK109.out 1).trans rfl
              have hcz32_2 : wr.cell? ⟨gb109, 2, none⟩ = some (.slice Ao10 t104.length co10) := (blk_cell BK109.out 2).trans rfl
              have hcz32_3 : wr.cell? ⟨gb109, 3, none⟩ = some (u110003) := (blk_cell BK109.out 3).trans rfl
              have hfz32_0 := blk_frozen BK109.out 0
              have hfz32_1 := blk_frozen BK109.out 1
              have hfz32_2 := blk_frozen BK109.out 2
              have hfz32_3 := blk_frozen BK109.out 3
              have hnb33 := NB101_108.out
              have hnc33 := NB108_101.out
              have hcz34_0 : wr.cell? ⟨gb101, 0, none⟩ = some (.string (⟨#[]⟩ : ByteArray)) := (blk_cell BK101.out 0).trans rfl
              have hcz34_1 : wr.cell? ⟨gb101, 1, none⟩ = some (.string (⟨#[]⟩ : ByteArray)) := (blk_cell BK101.out 1).trans rfl
              have hcz34_2 : wr.cell? ⟨gb101, 2, none⟩ = some (.slice none 0 0) := (blk_cell BK101.out 2).trans rfl
              have hcz34_3 : wr.cell? ⟨gb101, 3, none⟩ = some (.slice none 0 0) := (blk_cell BK101.out 3).trans rfl
              have hfz34_0 := blk_frozen BK101.out 0
              have hfz34_1 := blk_frozen BK101.out 1
              have hfz34_2 := blk_frozen BK101.out 2
              have hfz34_3 := blk_frozen BK101.out 3
              obtain ⟨Ao35, co35, eo35⟩ := Kd.S_slice HO_110003.out
              subst eo35
              go_wp2
              refine bodyPost_ret (results_ct rfl _ _ gb101 27 #[.string t102, .string t103, .slice Ao10 t104.length co10, .slice Ao35 x110003_2.length co35] (0, 0) _ rfl (by (with_reducible repeat (first | refine blk_drewN ?_ _ | refine blk_drew ?_ | refine blk_alloc ?_ _)); refine blk_put (cs := #[.string t102, .string t103, .slice Ao10 t104.length co10, .slice none 0 0]) ?_ 3 _ rfl; (with_reducible repeat (first | refine blk_drewN ?_ _ | refine blk_drew ?_ | refine blk_alloc ?_ _)); refine blk_put (cs := #[.string t102, .string t103, .slice none 0 0, .slice none 0 0]) ?_ 2 _ rfl; (with_reducible repeat (first | refine blk_drewN ?_ _ | refine blk_drew ?_ | refine blk_alloc ?_ _)); refine blk_put (cs := #[.string t102, .string (⟨#[]⟩ : ByteArray), .slice none 0 0, .slice none 0 0]) ?_ 1 _ rfl; (with_reducible repeat (first | refine blk_drewN ?_ _ | refine blk_drew ?_ | refine blk_alloc ?_ _)); refine blk_put (cs := #[.string (⟨#[]⟩ : ByteArray), .string (⟨#[]⟩ : ByteArray), .slice none 0 0, .slice none 0 0]) ?_ 0 _ rfl; (with_reducible repeat (first | refine blk_drewN ?_ _ | refine blk_drew ?_ | refine blk_alloc ?_ _)); exact BK101.out) Try.underlying27 rfl (by kernel_rfl)) rfl ?_
              exact ⟨_, _, by first | rfl | (simp [errW_none, errW_some] <;> rfl) | (simp [*, errW_none, errW_some] <;> rfl), by (with_reducible repeat (first | apply Kd.S_alloc | apply Kd.S_drewN | apply Kd.S_drew)); exact Kd.S_mono (Kd.S_far (p := ⟨gb101, 3, none⟩) (Kd.S_far (p := ⟨gb101, 2, none⟩) (Kd.S_far (p := ⟨gb101, 1, none⟩) (Kd.S_far (p := ⟨gb101, 0, none⟩) (Kd.S_types HO_110002.out BK101.out (by decide)) (fun _ hk => hk.2) (.string t102)) (fun _ hk => hk.2) (.string t103)) (fun _ hk => hk.2) (.slice Ao10 t104.length co10)) (fun _ hk => hk.2) (.slice Ao35 x110003_2.length co35)) (fun _ hk => trivial), by (with_reducible repeat (first | apply Kd.S_alloc | apply Kd.S_drewN | apply Kd.S_drew)); exact Kd.S_mono (Kd.S_far (p := ⟨gb101, 3, none⟩) (Kd.S_far (p := ⟨gb101, 2, none⟩) (Kd.S_far (p := ⟨gb101, 1, none⟩) (Kd.S_far (p := ⟨gb101, 0, none⟩) (Kd.S_types HO_110003.out BK101.out (by decide)) (fun _ hk => hk.2) (.string t102)) (fun _ hk => hk.2) (.string t103)) (fun _ hk => hk.2) (.slice Ao10 t104.length co10)) (fun _ hk => hk.2) (.slice Ao35 x110003_2.length co35)) (fun _ hk => trivial), by repeat (first | (with_reducible first | exact HB.out | apply below_alloc | apply pw_below_drewN | apply below_drew1 | refine below_set ?_ GE101.out | refine below_set ?_ GE108.out | refine below_set ?_ GE109.out) | exact HB.out)⟩
end
section
attribute [local go_sem] max2_int min2_int max_two min_two max_three min_three max_four min_four
def spec_NewServer.f (k : Nat) (a0 : ByteArray) : Option (ByteArray × ByteArray × (List (S67)) × Bool) := (spec_GoodText.f k a0).bind fun t102 => (if t102 = true then (some (a0, a0, ([] : List (S67)), true)) else (some ((⟨#[]⟩ : ByteArray), (⟨#[]⟩ : ByteArray), ([] : List (S67)), false)))
set_option maxHeartbeats 8000000 in
set_option maxRecDepth 100000 in
theorem spec_NewServer.calls (k : Nat) (a0 : ByteArray) (r1 : ByteArray) (r2 : ByteArray) (r3 : List (S67)) (r4 : Bool) (w : World) (h : spec_NewServer.f k a0 = some (r1, r2, r3, r4)) :
    Calls Try.prog 17 #[.string a0] w fun e w' => ∃ v2_ : Value, e = .returned (.tuple #[.agg #[.string r1, .string r2, v2_], .bool r4]) ∧ Kd.S k67 67 w' w.heap.size (fun _ => True) v2_ r3 ∧ Below w.heap.size w w' := by
  have hu24 := Try.underlying24
  have HB := mz (Below.refl w.heap.size w)
  have H : ((spec_GoodText.f k a0).bind fun t102 => (if t102 = true then (some (a0, a0, ([] : List (S67)), true)) else (some ((⟨#[]⟩ : ByteArray), (⟨#[]⟩ : ByteArray), ([] : List (S67)), false)))) = some (r1, r2, r3, r4) := h
  clear h
  replace H := be0_ H
  obtain ⟨t102, A20, H⟩ := H
  replace H : (if t102 = true then (some (a0, a0, ([] : List (S67)), true)) else (some ((⟨#[]⟩ : ByteArray), (⟨#[]⟩ : ByteArray), ([] : List (S67)), false))) = some (r1, r2, r3, r4) := H
  have A2 := mz A20
  clear A20
  by_cases c3 : t102 = true
  · subst c3
    have H1 : (some (a0, a0, ([] : List (S67)), true)) = some (r1, r2, r3, r4) := by rw [if_pos rfl] at H; exact H
    clear H
    have H := H1
    clear H1
    simp only [Option.some.injEq, Prod.mk.injEq] at H
    obtain ⟨rfl, rfl, rfl, rfl⟩ := H
    go_enter Try.func17, Try.ntmps17
    go_wp2_with (first | ((with_reducible refine gate_dst (N := 2) rfl ?_); refine box_event ?hg (N := 2) ?hd (cs := #[.string (⟨#[]⟩ : ByteArray), .string (⟨#[]⟩ : ByteArray), .slice none 0 0]) (t := 24) ?hr ?_; (case hd => rfl); (case hg => rfl); (case hr => first | (go_simp; done) | (go_simp; rfl)); intro gb101 hg w4 hbox hb; have n0_ := mz (below_step (by repeat (first | (with_reducible first | exact HB.out | apply below_alloc | apply pw_below_drewN | apply below_drew1) | exact HB.out)) hb); have n1_ := mz (hbox); have n2_ := mz ((by rw [hg]; exact (below_size (by repeat (first | (with_reducible first | exact HB.out | apply below_alloc | apply pw_below_drewN | apply below_drew1) | exact HB.out))) : w.heap.size ≤ gb101)); have n3_ := mz ((by rw [hg]; exact (below_size (by repeat (first | (with_reducible first | exact HB.out | apply below_alloc | apply pw_below_drewN | apply below_drew1) | exact HB.out))) : w.heap.size ≤ gb101)); clear HB; have HB := n0_; have BK101 := n1_; have GW101 := n2_; have GE101 := n3_; clear n0_ n1_ n2_ n3_; clear hb hbox hg) | ((with_reducible refine gate_callee (f := 39) rfl ?_); refine goesL_ (some 5) rfl rfl Try.func39 (by kernel_rfl) rfl #[.string a0] rfl (by (try simp only [List.map_toArray, List.map_cons, List.map_nil]); first | done | rfl | (simp only [List.length_drop, List.length_take]; rfl)) ?_; (with_reducible refine (spec_GoodText.calls k a0 true _ A2.out).mono ?_); rintro e w' ⟨rfl, ⟨nd, rfl⟩⟩; refine ⟨_, rfl, ?_⟩; (try (rw [drewN_self w4]; generalize hq_ : World.drewN w4 _ = w4; have n0_ : Aside0 (w4.heap[gb101]? = some (.cells #[.string (⟨#[]⟩ : ByteArray), .string (⟨#[]⟩ : ByteArray), .slice none 0 0] 24 (0, 0))) := ⟨by rw [← hq_]; exact (by (with_reducible repeat (first | refine blk_drewN ?_ _ | refine blk_drew ?_ | refine blk_alloc ?_ _)); exact BK101.out)⟩; have n1_ : Aside0 (Below w.heap.size w w4) := ⟨by rw [← hq_]; exact (by repeat (first | (with_reducible first | exact HB.out | apply below_alloc | apply pw_below_drewN | apply below_drew1 | refine below_set ?_ GE101.out) | exact HB.out))⟩; clear BK101 HB hq_; have BK101 := n0_; have HB := n1_; clear n0_ n1_)); have hcz5_0 : w4.cell? ⟨gb101, 0, none⟩ = some (.string (⟨#[]⟩ : ByteArray)) := (blk_cell BK101.out 0).trans rfl; have hcz5_1 : w4.cell? ⟨gb101, 1, none⟩ = some (.string (⟨#[]⟩ : ByteArray)) := (blk_cell BK101.out 1).trans rfl; have hcz5_2 : w4.cell? ⟨gb101, 2, none⟩ = some (.slice none 0 0) := (blk_cell BK101.out 2).trans rfl; have hfz5_0 := blk_frozen BK101.out 0; have hfz5_1 := blk_frozen BK101.out 1; have hfz5_2 := blk_frozen BK101.out 2))
    refine bodyPost_ret (results_ct rfl _ _ gb101 24 #[.string a0, .string a0, .slice none 0 0] (0, 0) _ rfl (by (with_reducible repeat (first | refine blk_drewN ?_ _ | refine blk_drew ?_ | refine blk_alloc ?_ _)); refine blk_put (cs := #[.string a0, .string a0, .slice none 0 0]) ?_ 2 _ rfl; (with_reducible repeat (first | refine blk_drewN ?_ _ | refine blk_drew ?_ | refine blk_alloc ?_ _)); refine blk_put (cs := #[.string a0, .string (⟨#[]⟩ : ByteArray), .slice none 0 0]) ?_ 1 _ rfl; (with_reducible repeat (first | refine blk_drewN ?_ _ | refine blk_drew ?_ | refine blk_alloc ?_ _)); refine blk_put (cs := #[.string (⟨#[]⟩ : ByteArray), .string (⟨#[]⟩ : ByteArray), .slice none 0 0]) ?_ 0 _ rfl; (with_reducible repeat (first | refine blk_drewN ?_ _ | refine blk_drew ?_ | refine blk_alloc ?_ _)); exact BK101.out) Try.underlying24 rfl (by kernel_rfl)) rfl ?_
    exact ⟨_, by first | rfl | (simp [errW_none, errW_some] <;> rfl) | (simp [*, errW_none, errW_some] <;> rfl), by first | exact Kd.S_nil _ _ _ _ _ | exact Kd.N_nil _ _ _ _ _ | exact Kd.V_nil _ _ _ _ _ | exact Kd.Q_nil _ _ _ _ _ | exact Kd.R_nil _ _ _ _ _, by repeat (first | (with_reducible first | exact HB.out | apply below_alloc | apply pw_below_drewN | apply below_drew1 | refine below_set ?_ GE101.out) | exact HB.out)⟩
  · replace c3 := Bool.eq_false_iff.mpr c3
    subst c3
    have H1 : (some ((⟨#[]⟩ : ByteArray), (⟨#[]⟩ : ByteArray), ([] : List (S67)), false)) = some (r1, r2, r3, r4) := by rw [if_neg (show ¬ (false = true) by decide)] at H; exact H
    clear H
    have H := H1
    clear H1
    simp only [Option.some.injEq, Prod.mk.injEq] at H
    obtain ⟨rfl, rfl, rfl, rfl⟩ := H
    go_enter Try.func17, Try.ntmps17
    go_wp2_with (first | ((with_reducible refine gate_dst (N := 2) rfl ?_); refine box_event ?hg (N := 2) ?hd (cs := #[.string (⟨#[]⟩ : ByteArray), .string (⟨#[]⟩ : ByteArray), .slice none 0 0]) (t := 24) ?hr ?_; (case hd => rfl); (case hg => rfl); (case hr => first | (go_simp; done) | (go_simp; rfl)); intro gb101 hg w6 hbox hb; have n0_ := mz (below_step (by repeat (first | (with_reducible first | exact HB.out | apply below_alloc | apply pw_below_drewN | apply below_drew1) | exact HB.out)) hb); have n1_ := mz (hbox); have n2_ := mz ((by rw [hg]; exact (below_size (by repeat (first | (with_reducible first | exact HB.out | apply below_alloc | apply pw_below_drewN | apply below_drew1) | exact HB.out))) : w.heap.size ≤ gb101)); have n3_ := mz ((by rw [hg]; exact (below_size (by repeat (first | (with_reducible first | exact HB.out | apply below_alloc | apply pw_below_drewN | apply below_drew1) | exact HB.out))) : w.heap.size ≤ gb101)); clear HB; have HB := n0_; have BK101 := n1_; have GW101 := n2_; have GE101 := n3_; clear n0_ n1_ n2_ n3_; clear hb hbox hg) | ((with_reducible refine gate_callee (f := 39) rfl ?_); refine goesL_ (some 5) rfl rfl Try.func39 (by kernel_rfl) rfl #[.string a0] rfl (by (try simp only [List.map_toArray, List.map_cons, List.map_nil]); first | done | rfl | (simp only [List.length_drop, List.length_take]; rfl)) ?_; (with_reducible refine (spec_GoodText.calls k a0 false _ A2.out).mono ?_); rintro e w' ⟨rfl, ⟨nd, rfl⟩⟩; refine ⟨_, rfl, ?_⟩; (try (rw [drewN_self w6]; generalize hq_ : World.drewN w6 _ = w6; have n0_ : Aside0 (w6.heap[gb101]? = some (.cells #[.string (⟨#[]⟩ : ByteArray), .string (⟨#[]⟩ : ByteArray), .slice none 0 0] 24 (0, 0))) := ⟨by rw [← hq_]; exact (by (with_reducible repeat (first | refine blk_drewN ?_ _ | refine blk_drew ?_ | refine blk_alloc ?_ _)); exact BK101.out)⟩; have n1_ : Aside0 (Below w.heap.size w w6) := ⟨by rw [← hq_]; exact (by repeat (first | (with_reducible first | exact HB.out | apply below_alloc | apply pw_below_drewN | apply below_drew1 | refine below_set ?_ GE101.out) | exact HB.out))⟩; clear BK101 HB hq_; have BK101 := n0_; have HB := n1_; clear n0_ n1_)); have hcz7_0 : w6.cell? ⟨gb101, 0, none⟩ = some (.string (⟨#[]⟩ : ByteArray)) := (blk_cell BK101.out 0).trans rfl; have hcz7_1 : w6.cell? ⟨gb101, 1, none⟩ = some (.string (⟨#[]⟩ : ByteArray)) := (blk_cell BK101.out 1).trans rfl; have hcz7_2 : w6.cell? ⟨gb101, 2, none⟩ = some (.slice none 0 0) := (blk_cell BK101.out 2).trans rfl; have hfz7_0 := blk_frozen BK101.out 0; have hfz7_1 := blk_frozen BK101.out 1; have hfz7_2 := blk_frozen BK101.out 2))
    refine bodyPost_ret (results_ct rfl _ _ gb101 24 #[.string (⟨#[]⟩ : ByteArray), .string (⟨#[]⟩ : ByteArray), .slice none 0 0] (0, 0) _ rfl (by (with_reducible repeat (first | refine blk_drewN ?_ _ | refine blk_drew ?_ | refine blk_alloc ?_ _)); refine blk_put (cs := #[.string (⟨#[]⟩ : ByteArray), .string (⟨#[]⟩ : ByteArray), .slice none 0 0]) ?_ 2 _ rfl; (with_reducible repeat (first | refine blk_drewN ?_ _ | refine blk_drew ?_ | refine blk_alloc ?_ _)); refine blk_put (cs := #[.string (⟨#[]⟩ : ByteArray), .string (⟨#[]⟩ : ByteArray), .slice none 0 0]) ?_ 1 _ rfl; (with_reducible repeat (first | refine blk_drewN ?_ _ | refine blk_drew ?_ | refine blk_alloc ?_ _)); refine blk_put (cs := #[.string (⟨#[]⟩ : ByteArray), .string (⟨#[]⟩ : ByteArray), .slice none 0 0]) ?_ 0 _ rfl; (with_reducible repeat (first | refine blk_drewN ?_ _ | refine blk_drew ?_ | refine blk_alloc ?_ _)); exact BK101.out) Try.underlying24 rfl (by kernel_rfl)) rfl ?_
    exact ⟨_, by first | rfl | (simp [errW_none, errW_some] <;> rfl) | (simp [*, errW_none, errW_some] <;> rfl), by first | exact Kd.S_nil _ _ _ _ _ | exact Kd.N_nil _ _ _ _ _ | exact Kd.V_nil _ _ _ _ _ | exact Kd.Q_nil _ _ _ _ _ | exact Kd.R_nil _ _ _ _ _, by repeat (first | (with_reducible first | exact HB.out | apply below_alloc | apply pw_below_drewN | apply below_drew1 | refine below_set ?_ GE101.out) | exact HB.out)⟩
end
section
attribute [local go_sem] max2_int min2_int max_two min_two max_three min_three max_four min_four
mutual
def spec_NewMeeting.j0 : Nat → Int → ByteArray → Bool → ByteArray → ByteArray → List (S67) → Option (ByteArray × ByteArray × (List (S67)) × (List (S51)) × Bool)
  | 0, _, _, _, _, _, _ => none
  | k + 1, x0, x1, x21, x109000, x109001, x109002 => if x21 = true then (some ((⟨#[]⟩ : ByteArray), (⟨#[]⟩ : ByteArray), ([] : List (S67)), ([] : List (S51)), false)) else (spec_NewMeeting.l0 k x0 x1 0 x109000 x109001 x109002 ([] : List (S51)))
def spec_NewMeeting.l0 : Nat → Int → ByteArray → Int → ByteArray → ByteArray → List (S67) → List (S51) → Option (ByteArray × ByteArray × (List (S67)) × (List (S51)) × Bool)
  | 0, _, _, _, _, _, _, _ => none
  | k + 1, x0, x1, x9, x111000, x111001, x111002, x111003 => if x9 < x0 then (if x111003.length < 1353245080339 then (spec_NewMeeting.l0 k x0 x1 (wrap64 (x9 + 1)) x111000 x111001 x111002 (x111003 ++ [(⟨x9, x1, 0, 0, false, ([] : List (S86)), ([] : List (S86)), false⟩ : S51)])) else (none)) else (some (x111000, x111001, x111002, x111003, true))
end
def spec_NewMeeting.f (k : Nat) (a0 : Int) (a1 : ByteArray) : Option (ByteArray × ByteArray × (List (S67)) × (List (S51)) × Bool) := (spec_NewServer.f k a1).bind fun bt102 => (if bt102.2.2.2 = true then ((spec_l1In.f a0 1 4).bind fun t109 => (spec_NewMeeting.j0 k a0 a1 (!t109) bt102.1 bt102.2.1 bt102.2.2.1)) else (spec_NewMeeting.j0 k a0 a1 true bt102.1 bt102.2.1 bt102.2.2.1))
set_option maxHeartbeats 8000000 in
set_option maxRecDepth 100000 in
theorem spec_NewMeeting.calls (k : Nat) (a0 : Int) (a1 : ByteArray) (r1 : ByteArray) (r2 : ByteArray) (r3 : List (S67)) (r4 : List (S51)) (r5 : Bool) (w : World) (h : spec_NewMeeting.f k a0 a1 = some (r1, r2, r3, r4, r5)) :
    Calls Try.prog 6 #[.int .i64 a0, .string a1] w fun e w' => ∃ v2_ v3_ : Value, e = .returned (.tuple #[.agg #[.string r1, .string r2, v2_, v3_], .bool r5]) ∧ Kd.S k67 67 w' w.heap.size (fun _ => True) v2_ r3 ∧ Kd.S k51 51 w' w.heap.size (fun _ => True) v3_ r4 ∧ Below w.heap.size w w' := by
  have hu27 := Try.underlying27
  have hu24 := Try.underlying24
  have hu51 := Try.underlying51
  have HB := mz (Below.refl w.heap.size w)
  have H : ((spec_NewServer.f k a1).bind fun bt102 => (if bt102.2.2.2 = true then ((spec_l1In.f a0 1 4).bind fun t109 => (spec_NewMeeting.j0 k a0 a1 (!t109) bt102.1 bt102.2.1 bt102.2.2.1)) else (spec_NewMeeting.j0 k a0 a1 true bt102.1 bt102.2.1 bt102.2.2.1))) = some (r1, r2, r3, r4, r5) := h
  clear h
  replace H := be0_ H
  obtain ⟨⟨t102, t103, t104, t107⟩, A30, H⟩ := H
  replace H : (if t107 = true then ((spec_l1In.f a0 1 4).bind fun t109 => (spec_NewMeeting.j0 k a0 a1 (!t109) t102 t103 t104)) else (spec_NewMeeting.j0 k a0 a1 true t102 t103 t104)) = some (r1, r2, r3, r4, r5) := H
  have A3 := mz A30
  clear A30
  have HC4 := mz H
  clear H
  go_enter Try.func6, Try.ntmps6
  go_upto_region 2 with (first | ((with_reducible refine gate_dst (N := 4) rfl ?_); refine box_event ?hg (N := 4) ?hd (cs := #[.string (⟨#[]⟩ : ByteArray), .string (⟨#[]⟩ : ByteArray), .slice none 0 0, .slice none 0 0]) (t := 27) ?hr ?_; (case hd => rfl); (case hg => rfl); (case hr => first | (go_simp; done) | (go_simp; rfl)); intro gb101 hg w5 hbox hb; have n0_ := mz (below_step (by repeat (first | (with_reducible first | exact HB.out | apply below_alloc | apply pw_below_drewN | apply below_drew1) | exact HB.out)) hb); have n1_ := mz (hbox); have n2_ := mz ((by rw [hg]; exact (below_size (by repeat (first | (with_reducible first | exact HB.out | apply below_alloc | apply pw_below_drewN | apply below_drew1) | exact HB.out))) : w.heap.size ≤ gb101)); have n3_ := mz ((by rw [hg]; exact (below_size (by repeat (first | (with_reducible first | exact HB.out | apply below_alloc | apply pw_below_drewN | apply below_drew1) | exact HB.out))) : w.heap.size ≤ gb101)); clear HB; have HB := n0_; have BK101 := n1_; have GW101 := n2_; have GE101 := n3_; clear n0_ n1_ n2_ n3_; clear hb hbox hg) | ((with_reducible refine gate_callee (f := 17) rfl ?_); refine goesL_ (some 12) rfl rfl Try.func17 (by kernel_rfl) rfl #[.string a1] rfl (by (try simp only [List.map_toArray, List.map_cons, List.map_nil]); first | done | rfl | (simp only [List.length_drop, List.length_take]; rfl)) ?_; (with_reducible refine (spec_NewServer.calls k a1 t102 t103 t104 t107 _ A3.out).mono ?_); rintro e w6 ⟨v105, rfl, ho0, hb⟩; refine ⟨_, rfl, ?_⟩; have n0_ := mz (Kd.S_lower ho0 (below_size (by repeat (first | (with_reducible first | exact HB.out | apply below_alloc | apply pw_below_drewN | apply below_drew1 | refine below_set ?_ GE101.out) | exact HB.out)))); have n1_ := mz (blk_below (g := gb101) (o := .cells #[.string (⟨#[]⟩ : ByteArray), .string (⟨#[]⟩ : ByteArray), .slice none 0 0, .slice none 0 0] 27 (0, 0)) (by (with_reducible repeat (first | refine blk_drewN ?_ _ | refine blk_drew ?_ | refine blk_alloc ?_ _)); exact BK101.out) hb); have n2_ := mz (below_step (by repeat (first | (with_reducible first | exact HB.out | apply below_alloc | apply pw_below_drewN | apply below_drew1 | refine below_set ?_ GE101.out) | exact HB.out)) hb); clear BK101; clear HB; have HO106 := n0_; have BK101 := n1_; have HB := n2_; clear n0_ n1_ n2_; (try clear hb); (try clear hb2); (try clear hk); (try clear hi); (try clear ho0)) | ((with_reducible refine gate_dst (N := 6) rfl ?_); refine box_event ?hg (N := 6) ?hd (cs := #[.string (⟨#[]⟩ : ByteArray), .string (⟨#[]⟩ : ByteArray), .slice none 0 0]) (t := 24) ?hr ?_; (case hd => rfl); (case hg => rfl); (case hr => first | (go_simp; done) | (go_simp; rfl)); intro gb108 hg w7 hbox hb; have n0_ := mz (Kd.S_below (by (with_reducible repeat (first | apply Kd.S_alloc | apply Kd.S_drewN | apply Kd.S_drew)); exact HO106.out) hb); have n1_ := mz (blk_below (g := gb101) (o := .cells #[.string (⟨#[]⟩ : ByteArray), .string (⟨#[]⟩ : ByteArray), .slice none 0 0, .slice none 0 0] 27 (0, 0)) (by (with_reducible repeat (first | refine blk_drewN ?_ _ | refine blk_drew ?_ | refine blk_alloc ?_ _)); exact BK101.out) hb); have n2_ := mz (below_step (by repeat (first | (with_reducible first | exact HB.out | apply below_alloc | apply pw_below_drewN | apply below_drew1 | refine below_set ?_ GE101.out) | exact HB.out)) hb); have n3_ := mz (hbox); have n4_ := mz ((by rw [hg]; exact (below_size (by repeat (first | (with_reducible first | exact HB.out | apply below_alloc | apply pw_below_drewN | apply below_drew1 | refine below_set ?_ GE101.out) | exact HB.out))) : w.heap.size ≤ gb108)); have n5_ := mz ((by rw [hg]; exact (below_size (by repeat (first | (with_reducible first | exact HB.out | apply below_alloc | apply pw_below_drewN | apply below_drew1 | refine below_set ?_ GE101.out) | exact HB.out))) : w.heap.size ≤ gb108)); have n6_ := mz ((by rw [hg]; exact Nat.ne_of_lt (blk_lt (g := gb101) (o := .cells #[.string (⟨#[]⟩ : ByteArray), .string (⟨#[]⟩ : ByteArray), .slice none 0 0, .slice none 0 0] 27 (0, 0)) (by (with_reducible repeat (first | refine blk_drewN ?_ _ | refine blk_drew ?_ | refine blk_alloc ?_ _)); exact BK101.out)) : gb101 ≠ gb108)); have n7_ := mz ((by rw [hg]; exact Nat.ne_of_gt (blk_lt (g := gb101) (o := .cells #[.string (⟨#[]⟩ : ByteArray), .string (⟨#[]⟩ : ByteArray), .slice none 0 0, .slice none 0 0] 27 (0, 0)) (by (with_reducible repeat (first | refine blk_drewN ?_ _ | refine blk_drew ?_ | refine blk_alloc ?_ _)); exact BK101.out)) : gb108 ≠ gb101)); clear HO106; clear BK101; clear HB; have HO106 := n0_; have BK101 := n1_; have HB := n2_; have BK108 := n3_; have GW108 := n4_; have GE108 := n5_; have NB101_108 := n6_; have NB108_101 := n7_; clear n0_ n1_ n2_ n3_ n4_ n5_ n6_ n7_; clear hb hbox hg; have hnb8 := NB108_101.out; have hnc8 := NB101_108.out; have hcz9_0 : w7.cell? ⟨gb108, 0, none⟩ = some (.string (⟨#[]⟩ : ByteArray)) := (blk_cell BK108.out 0).trans rfl; have hcz9_1 : w7.cell? ⟨gb108, 1, none⟩ = some (.string (⟨#[]⟩ : ByteArray)) := (blk_cell BK108.out 1).trans rfl; have hcz9_2 : w7.cell? ⟨gb108, 2, none⟩ = some (.slice none 0 0) := (blk_cell BK108.out 2).trans rfl; have hfz9_0 := blk_frozen BK108.out 0; have hfz9_1 := blk_frozen BK108.out 1; have hfz9_2 := blk_frozen BK108.out 2; obtain ⟨Ao10, co10, eo10⟩ := Kd.S_slice HO106.out; subst eo10))
  (try simp only [Act.put, List.setIfInBounds_toArray, List.set_cons_zero, List.set_cons_succ])
  go_cut [21] (fun v21 wc => ∃ (kq : Nat) (x21_3 : Bool), v21 = .bool x21_3 ∧ Aside0 (spec_NewMeeting.j0 kq a0 a1 x21_3 t102 t103 t104 = some (r1, r2, r3, r4, r5)) ∧ Aside0 (kq ≤ k) ∧ Aside0 (Kd.S k67 67 wc w.heap.size (fun _ => True) (.slice Ao10 t104.length co10) t104) ∧ Aside0 (wc.heap[gb101]? = some (.cells #[.string (⟨#[]⟩ : ByteArray), .string (⟨#[]⟩ : ByteArray), (.slice none 0 0), (.slice none 0 0)] 27 (0, 0))) ∧ Aside0 (wc.heap[gb108]? = some (.cells #[.string t102, .string t103, (.slice Ao10 t104.length co10)] 24 (0, 0))) ∧ Aside0 (Below w.heap.size w wc))
  case first =>
    have H := HC4.out
    clear HC4
    by_cases c11 : t107 = true
    · subst c11
      have H1 : ((spec_l1In.f a0 1 4).bind fun t109 => (spec_NewMeeting.j0 k a0 a1 (!t109) t102 t103 t104)) = some (r1, r2, r3, r4, r5) := by rw [if_pos rfl] at H; exact H
      clear H
      have H := H1
      clear H1
      replace H := be0_ H
      obtain ⟨t109, A120, H⟩ := H
      replace H : (spec_NewMeeting.j0 k a0 a1 (!t109) t102 t103 t104) = some (r1, r2, r3, r4, r5) := H
      have A12 := mz A120
      clear A120
      have H' := mz H
      clear H
      go_wp2_with (first | (go_at_call 18; (with_reducible refine (spec_l1In.calls a0 1 4 t109 _ A12.out).mono ?_); rintro e w' ⟨rfl, ⟨nd, rfl⟩⟩))
      go_meet
      case rel => exact ⟨_, (!t109), (by first | rfl | (simp; done) | (simp [*]; done)), H', ⟨by first | omega | exact Nat.le_refl _⟩, ⟨by (with_reducible repeat (first | apply Kd.S_alloc | apply Kd.S_drewN | apply Kd.S_drew)); exact Kd.S_mono (Kd.S_far (p := ⟨gb108, 2, none⟩) (Kd.S_far (p := ⟨gb108, 1, none⟩) (Kd.S_far (p := ⟨gb108, 0, none⟩) (Kd.S_types HO106.out BK108.out (by decide)) (fun _ hk => hk.2) (.string t102)) (fun _ hk => hk.2) (.string t103)) (fun _ hk => hk.2) (.slice Ao10 t104.length co10)) (fun _ hk => trivial)⟩, ⟨by (with_reducible repeat (first | refine blk_drewN ?_ _ | refine blk_drew ?_ | refine blk_alloc ?_ _)); refine blk_far ?_ NB101_108.out _; (with_reducible repeat (first | refine blk_drewN ?_ _ | refine blk_drew ?_ | refine blk_alloc ?_ _)); refine blk_far ?_ NB101_108.out _; (with_reducible repeat (first | refine blk_drewN ?_ _ | refine blk_drew ?_ | refine blk_alloc ?_ _)); refine blk_far ?_ NB101_108.out _; (with_reducible repeat (first | refine blk_drewN ?_ _ | refine blk_drew ?_ | refine blk_alloc ?_ _)); exact BK101.out⟩, ⟨by (with_reducible repeat (first | refine blk_drewN ?_ _ | refine blk_drew ?_ | refine blk_alloc ?_ _)); refine blk_put (cs := #[.string t102, .string t103, .slice none 0 0]) ?_ 2 _ rfl; (with_reducible repeat (first | refine blk_drewN ?_ _ | refine blk_drew ?_ | refine blk_alloc ?_ _)); refine blk_put (cs := #[.string t102, .string (⟨#[]⟩ : ByteArray), .slice none 0 0]) ?_ 1 _ rfl; (with_reducible repeat (first | refine blk_drewN ?_ _ | refine blk_drew ?_ | refine blk_alloc ?_ _)); refine blk_put (cs := #[.string (⟨#[]⟩ : ByteArray), .string (⟨#[]⟩ : ByteArray), .slice none 0 0]) ?_ 0 _ rfl; (with_reducible repeat (first | refine blk_drewN ?_ _ | refine blk_drew ?_ | refine blk_alloc ?_ _)); exact BK108.out⟩, ⟨by repeat (first | (with_reducible first | exact HB.out | apply below_alloc | apply pw_below_drewN | apply below_drew1 | refine below_set ?_ GE101.out | refine below_set ?_ GE108.out) | exact HB.out)⟩⟩
    · replace c11 := Bool.eq_false_iff.mpr c11
      subst c11
      have H1 : (spec_NewMeeting.j0 k a0 a1 true t102 t103 t104) = some (r1, r2, r3, r4, r5) := by rw [if_neg (show ¬ (false = true) by decide)] at H; exact H
      clear H
      have H := H1
      clear H1
      have H' := mz H
      clear H
      go_wp2
      go_meet
      case rel => exact ⟨_, (true), (by first | rfl | (simp; done) | (simp [*]; done)), H', ⟨by first | omega | exact Nat.le_refl _⟩, ⟨by (with_reducible repeat (first | apply Kd.S_alloc | apply Kd.S_drewN | apply Kd.S_drew)); exact Kd.S_mono (Kd.S_far (p := ⟨gb108, 2, none⟩) (Kd.S_far (p := ⟨gb108, 1, none⟩) (Kd.S_far (p := ⟨gb108, 0, none⟩) (Kd.S_types HO106.out BK108.out (by decide)) (fun _ hk => hk.2) (.string t102)) (fun _ hk => hk.2) (.string t103)) (fun _ hk => hk.2) (.slice Ao10 t104.length co10)) (fun _ hk => trivial)⟩, ⟨by (with_reducible repeat (first | refine blk_drewN ?_ _ | refine blk_drew ?_ | refine blk_alloc ?_ _)); refine blk_far ?_ NB101_108.out _; (with_reducible repeat (first | refine blk_drewN ?_ _ | refine blk_drew ?_ | refine blk_alloc ?_ _)); refine blk_far ?_ NB101_108.out _; (with_reducible repeat (first | refine blk_drewN ?_ _ | refine blk_drew ?_ | refine blk_alloc ?_ _)); refine blk_far ?_ NB101_108.out _; (with_reducible repeat (first | refine blk_drewN ?_ _ | refine blk_drew ?_ | refine blk_alloc ?_ _)); exact BK101.out⟩, ⟨by (with_reducible repeat (first | refine blk_drewN ?_ _ | refine blk_drew ?_ | refine blk_alloc ?_ _)); refine blk_put (cs := #[.string t102, .string t103, .slice none 0 0]) ?_ 2 _ rfl; (with_reducible repeat (first | refine blk_drewN ?_ _ | refine blk_drew ?_ | refine blk_alloc ?_ _)); refine blk_put (cs := #[.string t102, .string (⟨#[]⟩ : ByteArray), .slice none 0 0]) ?_ 1 _ rfl; (with_reducible repeat (first | refine blk_drewN ?_ _ | refine blk_drew ?_ | refine blk_alloc ?_ _)); refine blk_put (cs := #[.string (⟨#[]⟩ : ByteArray), .string (⟨#[]⟩ : ByteArray), .slice none 0 0]) ?_ 0 _ rfl; (with_reducible repeat (first | refine blk_drewN ?_ _ | refine blk_drew ?_ | refine blk_alloc ?_ _)); exact BK108.out⟩, ⟨by repeat (first | (with_reducible first | exact HB.out | apply below_alloc | apply pw_below_drewN | apply below_drew1 | refine below_set ?_ GE101.out | refine below_set ?_ GE108.out) | exact HB.out)⟩⟩
  case rest =>
    clear HC4
    try clear c1
    try clear p2
    try clear c6
    try clear c8
    try clear c11
    try clear hcz9_0
    try clear hcz9_1
    try clear hcz9_2
    try clear hfz9_0
    try clear hfz9_1
    try clear hfz9_2
    obtain ⟨kq, x21_3, rfl, HA, HJ3, HO_109002, BK101, BK108, HB⟩ := hcut
    cases kq with
    | zero => exact absurd HA.out (by simp [spec_NewMeeting.j0])
    | succ kj3 =>
      have H := HA.out
      clear HA
      simp only [spec_NewMeeting.j0] at H
      by_cases c13 : x21_3 = true
      · subst c13
        have H1 : (some ((⟨#[]⟩ : ByteArray), (⟨#[]⟩ : ByteArray), ([] : List (S67)), ([] : List (S51)), false)) = some (r1, r2, r3, r4, r5) := by rw [if_pos rfl] at H; exact H
        clear H
        have H := H1
        clear H1
        simp only [Option.some.injEq, Prod.mk.injEq] at H
        obtain ⟨rfl, rfl, rfl, rfl, rfl⟩ := H
        have hnb14 := NB101_108.out
        have hnc14 := NB108_101.out
        have hcz15_0 : wc.cell? ⟨gb101, 0, none⟩ = some (.string (⟨#[]⟩ : ByteArray)) := (blk_cell BK101.out 0).trans rfl
        have hcz15_1 : wc.cell? ⟨gb101, 1, none⟩ = some (.string (⟨#[]⟩ : ByteArray)) := (blk_cell BK101.out 1).trans rfl
        have hcz15_2 : wc.cell? ⟨gb101, 2, none⟩ = some (.slice none 0 0) := (blk_cell BK101.out 2).trans rfl
        have hcz15_3 : wc.cell? ⟨gb101, 3, none⟩ = some (.slice none 0 0) := (blk_cell BK101.out 3).trans rfl
        have hfz15_0 := blk_frozen BK101.out 0
        have hfz15_1 := blk_frozen BK101.out 1
        have hfz15_2 := blk_frozen BK101.out 2
        have hfz15_3 := blk_frozen BK101.out 3
        go_wp2
        refine bodyPost_ret (results_ct rfl _ _ gb101 27 #[.string (⟨#[]⟩ : ByteArray), .string (⟨#[]⟩ : ByteArray), .slice none 0 0, .slice none 0 0] (0, 0) _ rfl (by (with_reducible repeat (first | refine blk_drewN ?_ _ | refine blk_drew ?_ | refine blk_alloc ?_ _)); refine blk_put (cs := #[.string (⟨#[]⟩ : ByteArray), .string (⟨#[]⟩ : ByteArray), .slice none 0 0, .slice none 0 0]) ?_ 3 _ rfl; (with_reducible repeat (first | refine blk_drewN ?_ _ | refine blk_drew ?_ | refine blk_alloc ?_ _)); refine blk_put (cs := #[.string (⟨#[]⟩ : ByteArray), .string (⟨#[]⟩ : ByteArray), .slice none 0 0, .slice none 0 0]) ?_ 2 _ rfl; (with_reducible repeat (first | refine blk_drewN ?_ _ | refine blk_drew ?_ | refine blk_alloc ?_ _)); refine blk_put (cs := #[.string (⟨#[]⟩ : ByteArray), .string (⟨#[]⟩ : ByteArray), .slice none 0 0, .slice none 0 0]) ?_ 1 _ rfl; (with_reducible repeat (first | refine blk_drewN ?_ _ | refine blk_drew ?_ | refine blk_alloc ?_ _)); refine blk_put (cs := #[.string (⟨#[]⟩ : ByteArray), .string (⟨#[]⟩ : ByteArray), .slice none 0 0, .slice none 0 0]) ?_ 0 _ rfl; (with_reducible repeat (first | refine blk_drewN ?_ _ | refine blk_drew ?_ | refine blk_alloc ?_ _)); exact BK101.out) Try.underlying27 rfl (by kernel_rfl)) rfl ?_
        exact ⟨_, _, by first | rfl | (simp [errW_none, errW_some] <;> rfl) | (simp [*, errW_none, errW_some] <;> rfl), by first | exact Kd.S_nil _ _ _ _ _ | exact Kd.N_nil _ _ _ _ _ | exact Kd.V_nil _ _ _ _ _ | exact Kd.Q_nil _ _ _ _ _ | exact Kd.R_nil _ _ _ _ _, by first | exact Kd.S_nil _ _ _ _ _ | exact Kd.N_nil _ _ _ _ _ | exact Kd.V_nil _ _ _ _ _ | exact Kd.Q_nil _ _ _ _ _ | exact Kd.R_nil _ _ _ _ _, by repeat (first | (with_reducible first | exact HB.out | apply below_alloc | apply pw_below_drewN | apply below_drew1 | refine below_set ?_ GE101.out | refine below_set ?_ GE108.out) | exact HB.out)⟩
      · replace c13 := Bool.eq_false_iff.mpr c13
        subst c13
        have H1 : (spec_NewMeeting.l0 kj3 a0 a1 0 t102 t103 t104 ([] : List (S51))) = some (r1, r2, r3, r4, r5) := by rw [if_neg (show ¬ (false = true) by decide)] at H; exact H
        clear H
        have H := H1
        clear H1
        have H' := mz H
        clear H
        have hnb16 := NB108_101.out
        have hnc16 := NB101_108.out
        have hcz17_0 : wc.cell? ⟨gb108, 0, none⟩ = some (.string t102) := (blk_cell BK108.out 0).trans rfl
        have hcz17_1 : wc.cell? ⟨gb108, 1, none⟩ = some (.string t103) := (blk_cell BK108.out 1).trans rfl
        have hcz17_2 : wc.cell? ⟨gb108, 2, none⟩ = some (.slice Ao10 t104.length co10) := (blk_cell BK108.out 2).trans rfl
        have hfz17_0 := blk_frozen BK108.out 0
        have hfz17_1 := blk_frozen BK108.out 1
        have hfz17_2 := blk_frozen BK108.out 2
        go_wp2_with (first | ((with_reducible refine gate_dst (N := 8) rfl ?_); refine box_event ?hg (N := 8) ?hd (cs := #[.string (⟨#[]⟩ : ByteArray), .string (⟨#[]⟩ : ByteArray), .slice none 0 0, .slice none 0 0]) (t := 27) ?hr ?_; (case hd => rfl); (case hg => rfl); (case hr => first | (go_simp; done) | (go_simp; rfl)); intro gb110 hg w18 hbox hb; have n0_ := mz (Kd.S_below (by (with_reducible repeat (first | apply Kd.S_alloc | apply Kd.S_drewN | apply Kd.S_drew)); exact HO_109002.out) hb); have n1_ := mz (blk_below (g := gb101) (o := .cells #[.string (⟨#[]⟩ : ByteArray), .string (⟨#[]⟩ : ByteArray), .slice none 0 0, .slice none 0 0] 27 (0, 0)) (by (with_reducible repeat (first | refine blk_drewN ?_ _ | refine blk_drew ?_ | refine blk_alloc ?_ _)); exact BK101.out) hb); have n2_ := mz (blk_below (g := gb108) (o := .cells #[.string t102, .string t103, .slice Ao10 t104.length co10] 24 (0, 0)) (by (with_reducible repeat (first | refine blk_drewN ?_ _ | refine blk_drew ?_ | refine blk_alloc ?_ _)); exact BK108.out) hb); have n3_ := mz (below_step (by repeat (first | (with_reducible first | exact HB.out | apply below_alloc | apply pw_below_drewN | apply below_drew1 | refine below_set ?_ GE101.out | refine below_set ?_ GE108.out) | exact HB.out)) hb); have n4_ := mz (hbox); have n5_ := mz ((by rw [hg]; exact (below_size (by repeat (first | (with_reducible first | exact HB.out | apply below_alloc | apply pw_below_drewN | apply below_drew1 | refine below_set ?_ GE101.out | refine below_set ?_ GE108.out) | exact HB.out))) : w.heap.size ≤ gb110)); have n6_ := mz ((by rw [hg]; exact (below_size (by repeat (first | (with_reducible first | exact HB.out | apply below_alloc | apply pw_below_drewN | apply below_drew1 | refine below_set ?_ GE101.out | refine below_set ?_ GE108.out) | exact HB.out))) : w.heap.size ≤ gb110)); have n7_ := mz ((by rw [hg]; exact Nat.ne_of_lt (blk_lt (g := gb101) (o := .cells #[.string (⟨#[]⟩ : ByteArray), .string (⟨#[]⟩ : ByteArray), .slice none 0 0, .slice none 0 0] 27 (0, 0)) (by (with_reducible repeat (first | refine blk_drewN ?_ _ | refine blk_drew ?_ | refine blk_alloc ?_ _)); exact BK101.out)) : gb101 ≠ gb110)); have n8_ := mz ((by rw [hg]; exact Nat.ne_of_gt (blk_lt (g := gb101) (o := .cells #[.string (⟨#[]⟩ : ByteArray), .string (⟨#[]⟩ : ByteArray), .slice none 0 0, .slice none 0 0] 27 (0, 0)) (by (with_reducible repeat (first | refine blk_drewN ?_ _ | refine blk_drew ?_ | refine blk_alloc ?_ _)); exact BK101.out)) : gb110 ≠ gb101)); have n9_ := mz ((by rw [hg]; exact Nat.ne_of_lt (blk_lt (g := gb108) (o := .cells #[.string t102, .string t103, .slice Ao10 t104.length co10] 24 (0, 0)) (by (with_reducible repeat (first | refine blk_drewN ?_ _ | refine blk_drew ?_ | refine blk_alloc ?_ _)); exact BK108.out)) : gb108 ≠ gb110)); have n10_ := mz ((by rw [hg]; exact Nat.ne_of_gt (blk_lt (g := gb108) (o := .cells #[.string t102, .string t103, .slice Ao10 t104.length co10] 24 (0, 0)) (by (with_reducible repeat (first | refine blk_drewN ?_ _ | refine blk_drew ?_ | refine blk_alloc ?_ _)); exact BK108.out)) : gb110 ≠ gb108)); clear HO_109002; clear BK101; clear BK108; clear HB; have HO_109002 := n0_; have BK101 := n1_; have BK108 := n2_; have HB := n3_; have BK110 := n4_; have GW110 := n5_; have GE110 := n6_; have NB101_110 := n7_; have NB110_101 := n8_; have NB108_110 := n9_; have NB110_108 := n10_; clear n0_ n1_ n2_ n3_ n4_ n5_ n6_ n7_ n8_ n9_ n10_; clear hb hbox hg; have hnb19 := NB110_101.out; have hnc19 := NB101_110.out; have hnb20 := NB110_108.out; have hnc20 := NB108_110.out; have hcz21_0 : w18.cell? ⟨gb110, 0, none⟩ = some (.string (⟨#[]⟩ : ByteArray)) := (blk_cell BK110.out 0).trans rfl; have hcz21_1 : w18.cell? ⟨gb110, 1, none⟩ = some (.string (⟨#[]⟩ : ByteArray)) := (blk_cell BK110.out 1).trans rfl; have hcz21_2 : w18.cell? ⟨gb110, 2, none⟩ = some (.slice none 0 0) := (blk_cell BK110.out 2).trans rfl; have hcz21_3 : w18.cell? ⟨gb110, 3, none⟩ = some (.slice none 0 0) := (blk_cell BK110.out 3).trans rfl; have hfz21_0 := blk_frozen BK110.out 0; have hfz21_1 := blk_frozen BK110.out 1; have hfz21_2 := blk_frozen BK110.out 2; have hfz21_3 := blk_frozen BK110.out 3))
        go_loopg [9] kj3 (fun kq v9 w' => ∃ (x9_2 : Int) (x111003_2 : List (S51)) (u111003 : Value), v9 = .int .i64 x9_2 ∧ Aside0 (spec_NewMeeting.l0 kq a0 a1 x9_2 t102 t103 t104 x111003_2 = some (r1, r2, r3, r4, r5)) ∧ Aside0 (kq ≤ kj3) ∧ Aside0 (Kd.S k67 67 w' w.heap.size (fun _ => True) (.slice Ao10 t104.length co10) t104) ∧ Aside0 (Kd.S k67 67 w' w.heap.size (fun _ => True) (.slice Ao10 t104.length co10) t104) ∧ Aside0 (Kd.S k51 51 w' w.heap.size (fun _ => True) u111003 x111003_2) ∧ Aside0 (w'.heap[gb101]? = some (.cells #[.string (⟨#[]⟩ : ByteArray), .string (⟨#[]⟩ : ByteArray), (.slice none 0 0), (.slice none 0 0)] 27 (0, 0))) ∧ Aside0 (w'.heap[gb108]? = some (.cells #[.string t102, .string t103, (.slice Ao10 t104.length co10)] 24 (0, 0))) ∧ Aside0 (w'.heap[gb110]? = some (.cells #[.string t102, .string t103, (.slice Ao10 t104.length co10), u111003] 27 (0, 0))) ∧ Aside0 (Below w.heap.size w w'))
        case atStart => exact ⟨(0), (([] : List (S51))), (.slice none 0 0), (by first | rfl | (simp; done) | (simp [*]; done)), H', ⟨Nat.le_refl _⟩, ⟨by (with_reducible repeat (first | apply Kd.S_alloc | apply Kd.S_drewN | apply Kd.S_drew)); exact Kd.S_mono (Kd.S_far (p := ⟨gb110, 3, none⟩) (Kd.S_far (p := ⟨gb110, 2, none⟩) (Kd.S_far (p := ⟨gb110, 1, none⟩) (Kd.S_far (p := ⟨gb110, 0, none⟩) (Kd.S_types HO_109002.out BK110.out (by decide)) (fun _ hk => hk.2) (.string t102)) (fun _ hk => hk.2) (.string t103)) (fun _ hk => hk.2) (.slice Ao10 t104.length co10)) (fun _ hk => hk.2) (.slice none 0 0)) (fun _ hk => trivial)⟩, ⟨by (with_reducible repeat (first | apply Kd.S_alloc | apply Kd.S_drewN | apply Kd.S_drew)); exact Kd.S_mono (Kd.S_far (p := ⟨gb110, 3, none⟩) (Kd.S_far (p := ⟨gb110, 2, none⟩) (Kd.S_far (p := ⟨gb110, 1, none⟩) (Kd.S_far (p := ⟨gb110, 0, none⟩) (Kd.S_types HO_109002.out BK110.out (by decide)) (fun _ hk => hk.2) (.string t102)) (fun _ hk => hk.2) (.string t103)) (fun _ hk => hk.2) (.slice Ao10 t104.length co10)) (fun _ hk => hk.2) (.slice none 0 0)) (fun _ hk => trivial)⟩, ⟨by first | exact Kd.S_nil _ _ _ _ _ | exact Kd.N_nil _ _ _ _ _ | exact Kd.V_nil _ _ _ _ _ | exact Kd.Q_nil _ _ _ _ _ | exact Kd.R_nil _ _ _ _ _⟩, ⟨by (with_reducible repeat (first | refine blk_drewN ?_ _ | refine blk_drew ?_ | refine blk_alloc ?_ _)); refine blk_far ?_ NB101_110.out _; (with_reducible repeat (first | refine blk_drewN ?_ _ | refine blk_drew ?_ | refine blk_alloc ?_ _)); refine blk_far ?_ NB101_110.out _; (with_reducible repeat (first | refine blk_drewN ?_ _ | refine blk_drew ?_ | refine blk_alloc ?_ _)); refine blk_far ?_ NB101_110.out _; (with_reducible repeat (first | refine blk_drewN ?_ _ | refine blk_drew ?_ | refine blk_alloc ?_ _)); refine blk_far ?_ NB101_110.out _; (with_reducible repeat (first | refine blk_drewN ?_ _ | refine blk_drew ?_ | refine blk_alloc ?_ _)); exact BK101.out⟩, ⟨by (with_reducible repeat (first | refine blk_drewN ?_ _ | refine blk_drew ?_ | refine blk_alloc ?_ _)); refine blk_far ?_ NB108_110.out _; (with_reducible repeat (first | refine blk_drewN ?_ _ | refine blk_drew ?_ | refine blk_alloc ?_ _)); refine blk_far ?_ NB108_110.out _; (with_reducible repeat (first | refine blk_drewN ?_ _ | refine blk_drew ?_ | refine blk_alloc ?_ _)); refine blk_far ?_ NB108_110.out _; (with_reducible repeat (first | refine blk_drewN ?_ _ | refine blk_drew ?_ | refine blk_alloc ?_ _)); refine blk_far ?_ NB108_110.out _; (with_reducible repeat (first | refine blk_drewN ?_ _ | refine blk_drew ?_ | refine blk_alloc ?_ _)); exact BK108.out⟩, ⟨by (with_reducible repeat (first | refine blk_drewN ?_ _ | refine blk_drew ?_ | refine blk_alloc ?_ _)); refine blk_put (cs := #[.string t102, .string t103, .slice Ao10 t104.length co10, .slice none 0 0]) ?_ 3 _ rfl; (with_reducible repeat (first | refine blk_drewN ?_ _ | refine blk_drew ?_ | refine blk_alloc ?_ _)); refine blk_put (cs := #[.string t102, .string t103, .slice none 0 0, .slice none 0 0]) ?_ 2 _ rfl; (with_reducible repeat (first | refine blk_drewN ?_ _ | refine blk_drew ?_ | refine blk_alloc ?_ _)); refine blk_put (cs := #[.string t102, .string (⟨#[]⟩ : ByteArray), .slice none 0 0, .slice none 0 0]) ?_ 1 _ rfl; (with_reducible repeat (first | refine blk_drewN ?_ _ | refine blk_drew ?_ | refine blk_alloc ?_ _)); refine blk_put (cs := #[.string (⟨#[]⟩ : ByteArray), .string (⟨#[]⟩ : ByteArray), .slice none 0 0, .slice none 0 0]) ?_ 0 _ rfl; (with_reducible repeat (first | refine blk_drewN ?_ _ | refine blk_drew ?_ | refine blk_alloc ?_ _)); exact BK110.out⟩, ⟨by repeat (first | (with_reducible first | exact HB.out | apply below_alloc | apply pw_below_drewN | apply below_drew1 | refine below_set ?_ GE101.out | refine below_set ?_ GE108.out | refine below_set ?_ GE110.out) | exact HB.out)⟩⟩
        case round =>
          clear H'
          try clear c1
          try clear c2
          try clear p2
          try clear c6
          try clear c8
          try clear c11
          try clear c13
          try clear c14
          try clear c16
          try clear c17
          try clear c19
          try clear c20
          try clear hcz15_0
          try clear hcz15_1
          try clear hcz15_2
          try clear hcz15_3
          try clear hcz17_0
          try clear hcz17_1
          try clear hcz17_2
          try clear hcz21_0
          try clear hcz21_1
          try clear hcz21_2
          try clear hcz21_3
          try clear hcz9_0
          try clear hcz9_1
          try clear hcz9_2
          try clear hfz15_0
          try clear hfz15_1
          try clear hfz15_2
          try clear hfz15_3
          try clear hfz17_0
          try clear hfz17_1
          try clear hfz17_2
          try clear hfz21_0
          try clear hfz21_1
          try clear hfz21_2
          try clear hfz21_3
          try clear hfz9_0
          try clear hfz9_1
          try clear hfz9_2
          try clear p2
          obtain ⟨x9_2, x111003_2, u111003, rfl, HA, HK2, HO_109002, HO_111002, HO_111003, BK101, BK108, BK110, HB⟩ := hrel
          cases gk with
          | zero => exact absurd HA.out (by simp [spec_NewMeeting.l0])
          | succ k2 =>
            have H := HA.out
            clear HA
            simp only [spec_NewMeeting.l0] at H
            by_cases c22 : x9_2 < a0
            · rw [if_pos c22] at H
              have c22b0 : decide (x9_2 < a0) = true := decide_eq_true c22
              clear c22
              by_cases c23 : x111003_2.length < 1353245080339
              · rw [if_pos c23] at H
                have LMc23 := mz c23
                clear c23
                obtain ⟨y111, hy111⟩ : ∃ y_ : List (S51), y_ = (x111003_2 ++ [(⟨x9_2, a1, 0, 0, false, ([] : List (S86)), ([] : List (S86)), false⟩ : S51)]) := ⟨_, rfl⟩
                replace H : (spec_NewMeeting.l0 k2 a0 a1 (wrap64 (x9_2 + 1)) t102 t103 t104 y111) = some (r1, r2, r3, r4, r5) := by first | (rw [hy111]; with_reducible exact H) | (have H2_ := (Option.bind_some _ _).symm.trans H; rw [hy111]; with_reducible exact H2_) | (have H2_ := (Option.bind_some _ _).symm.trans H; with_reducible exact H2_) | with_reducible exact H | (rw [hy111]; exact H) | exact H
                have Ny111 := mz hy111
                clear hy111
                have H' := mz H
                clear H
                have hnb24 := NB110_101.out
                have hnc24 := NB101_110.out
                have hnb25 := NB110_108.out
                have hnc25 := NB108_110.out
                have hcz26_0 : wr.cell? ⟨gb110, 0, none⟩ = some (.string t102) := (blk_cell BK110.out 0).trans rfl
                have hcz26_1 : wr.cell? ⟨gb110, 1, none⟩ = some (.string t103) := (blk_cell BK110.out 1).trans rfl
                have hcz26_2 : wr.cell? ⟨gb110, 2, none⟩ = some (.slice Ao10 t104.length co10) := (blk_cell BK110.out 2).trans rfl
                have hcz26_3 : wr.cell? ⟨gb110, 3, none⟩ = some (u111003) := (blk_cell BK110.out 3).trans rfl
                have hfz26_0 := blk_frozen BK110.out 0
                have hfz26_1 := blk_frozen BK110.out 1
                have hfz26_2 := blk_frozen BK110.out 2
                have hfz26_3 := blk_frozen BK110.out 3
                go_wp2_with (first | ((with_reducible refine gate_builtin (b := .append) (xs := #[.tmp 31, .tmp 35]) rfl ?_); at_builtin; refine Kd.S_append k51 (w0 := w) w.heap.size rfl (.tmp 31) (.tmp 35) 25 51 (.agg #[(.int .i64 0), (.string ⟨#[]⟩), (.int .i64 0), (.int .i64 0), (.bool false), (.slice none 0 0), (.slice none 0 0), (.bool false)]) 104 rfl Try.underlying25 info51 rfl (by decide) (by omega) u111003 x111003_2 (⟨x9_2, a1, 0, 0, false, ([] : List (S86)), ([] : List (S86)), false⟩ : S51) [.int .i64 x9_2, .string a1, .int .i64 0, .int .i64 0, .bool false, .slice none 0 0, .slice none 0 0, .bool false] (fun _ => True) (fun _ => False) rfl rfl ?aP (fun k_ hk_ => hk_.elim) ?aF ?aO ?aB ?aS ?aL ?_; (case aP => exact k51_mkM _ _ _ (⟨x9_2, a1, 0, 0, false, ([] : List (S86)), ([] : List (S86)), false⟩ : S51) (Kd.R_nil _ _ _ _ _) (Kd.R_nil _ _ _ _ _)); (case aB => exact (by repeat (first | (with_reducible first | exact HB.out | apply below_alloc | apply pw_below_drewN | apply below_drew1 | refine below_set ?_ GE101.out | refine below_set ?_ GE108.out | refine below_set ?_ GE110.out) | exact HB.out))); (case aF => exact (fun _ _ => trivial)); (case aO => exact (by (with_reducible repeat (first | apply Kd.S_alloc | apply Kd.S_drewN | apply Kd.S_drew)); exact Kd.S_mono HO_111003.out (fun k_ hk => ⟨trivial, fun e_ => e_⟩))); (case aS => exact (below_size (by repeat (first | (with_reducible first | exact HB.out | apply below_alloc | apply pw_below_drewN | apply below_drew1 | refine below_set ?_ GE101.out | refine below_set ?_ GE108.out | refine below_set ?_ GE110.out) | exact HB.out)))); (case aL => have := LMc23.out; omega); intro v112 w27 ho hb hg hat; rw [← Ny111.out] at ho; have n0_ := mz (Kd.S_over' (by (with_reducible repeat (first | apply Kd.S_alloc | apply Kd.S_drewN | apply Kd.S_drew)); exact HO_109002.out) (Kd.S_typed (by (with_reducible repeat (first | apply Kd.S_alloc | apply Kd.S_drewN | apply Kd.S_drew)); exact HO_111003.out)) (by decide) hg); have n1_ := mz (Kd.S_over' (by (with_reducible repeat (first | apply Kd.S_alloc | apply Kd.S_drewN | apply Kd.S_drew)); exact HO_111002.out) (Kd.S_typed (by (with_reducible repeat (first | apply Kd.S_alloc | apply Kd.S_drewN | apply Kd.S_drew)); exact HO_111003.out)) (by decide) hg); have n2_ := mz (blk_grown (g := gb101) (o := .cells #[.string (⟨#[]⟩ : ByteArray), .string (⟨#[]⟩ : ByteArray), .slice none 0 0, .slice none 0 0] 27 (0, 0)) (by (with_reducible repeat (first | refine blk_drewN ?_ _ | refine blk_drew ?_ | refine blk_alloc ?_ _)); exact BK101.out) hg (Kd.S_ne HO_111003.out BK101.out (by decide))); have n3_ := mz (blk_grown (g := gb108) (o := .cells #[.string t102, .string t103, .slice Ao10 t104.length co10] 24 (0, 0)) (by (with_reducible repeat (first | refine blk_drewN ?_ _ | refine blk_drew ?_ | refine blk_alloc ?_ _)); exact BK108.out) hg (Kd.S_ne HO_111003.out BK108.out (by decide))); have n4_ := mz (blk_grown (g := gb110) (o := .cells #[.string t102, .string t103, .slice Ao10 t104.length co10, u111003] 27 (0, 0)) (by (with_reducible repeat (first | refine blk_drewN ?_ _ | refine blk_drew ?_ | refine blk_alloc ?_ _)); exact BK110.out) hg (Kd.S_ne HO_111003.out BK110.out (by decide))); have n5_ := mz (hb); have n6_ := mz (ho); clear HO_109002; clear HO_111002; clear BK101; clear BK108; clear BK110; clear HB; clear HO_111003; have HO_109002 := n0_; have HO_111002 := n1_; have BK101 := n2_; have BK108 := n3_; have BK110 := n4_; have HB := n5_; have HO113 := n6_; clear n0_ n1_ n2_ n3_ n4_ n5_ n6_; clear ho hb hg hat; obtain ⟨Ao28, co28, eo28⟩ := Kd.S_slice HO113.out; subst eo28; have hcz29_0 : w27.cell? ⟨gb110, 0, none⟩ = some (.string t102) := (blk_cell BK110.out 0).trans rfl; have hcz29_1 : w27.cell? ⟨gb110, 1, none⟩ = some (.string t103) := (blk_cell BK110.out 1).trans rfl; have hcz29_2 : w27.cell? ⟨gb110, 2, none⟩ = some (.slice Ao10 t104.length co10) := (blk_cell BK110.out 2).trans rfl; have hcz29_3 : w27.cell? ⟨gb110, 3, none⟩ = some (u111003) := (blk_cell BK110.out 3).trans rfl; have hfz29_0 := blk_frozen BK110.out 0; have hfz29_1 := blk_frozen BK110.out 1; have hfz29_2 := blk_frozen BK110.out 2; have hfz29_3 := blk_frozen BK110.out 3))
                go_roundg k2
                case measure => have := HJ3.out; have := HK2.out; omega
                case rel => exact ⟨(wrap64 (x9_2 + 1)), (y111), (.slice Ao28 y111.length co28), (by first | rfl | (simp; done) | (simp [*]; done)), H', ⟨by have := HJ3.out; have := HK2.out; omega⟩, ⟨by (with_reducible repeat (first | apply Kd.S_alloc | apply Kd.S_drewN | apply Kd.S_drew)); exact Kd.S_mono (Kd.S_far (p := ⟨gb110, 3, none⟩) (Kd.S_types HO_109002.out BK110.out (by decide)) (fun _ hk => hk.2) (.slice Ao28 y111.length co28)) (fun _ hk => trivial)⟩, ⟨by (with_reducible repeat (first | apply Kd.S_alloc | apply Kd.S_drewN | apply Kd.S_drew)); exact Kd.S_mono (Kd.S_far (p := ⟨gb110, 3, none⟩) (Kd.S_types HO_111002.out BK110.out (by decide)) (fun _ hk => hk.2) (.slice Ao28 y111.length co28)) (fun _ hk => trivial)⟩, ⟨by (with_reducible repeat (first | apply Kd.S_alloc | apply Kd.S_drewN | apply Kd.S_drew)); exact Kd.S_mono (Kd.S_far (p := ⟨gb110, 3, none⟩) (Kd.S_types HO113.out BK110.out (by decide)) (fun _ hk => hk.2) (.slice Ao28 y111.length co28)) (fun _ hk => trivial)⟩, ⟨by (with_reducible repeat (first | refine blk_drewN ?_ _ | refine blk_drew ?_ | refine blk_alloc ?_ _)); refine blk_far ?_ NB101_110.out _; (with_reducible repeat (first | refine blk_drewN ?_ _ | refine blk_drew ?_ | refine blk_alloc ?_ _)); exact BK101.out⟩, ⟨by (with_reducible repeat (first | refine blk_drewN ?_ _ | refine blk_drew ?_ | refine blk_alloc ?_ _)); refine blk_far ?_ NB108_110.out _; (with_reducible repeat (first | refine blk_drewN ?_ _ | refine blk_drew ?_ | refine blk_alloc ?_ _)); exact BK108.out⟩, ⟨by (with_reducible repeat (first | refine blk_drewN ?_ _ | refine blk_drew ?_ | refine blk_alloc ?_ _)); refine blk_put (cs := #[.string t102, .string t103, .slice Ao10 t104.length co10, u111003]) ?_ 3 _ rfl; (with_reducible repeat (first | refine blk_drewN ?_ _ | refine blk_drew ?_ | refine blk_alloc ?_ _)); exact BK110.out⟩, ⟨by repeat (first | (with_reducible first | exact HB.out | apply below_alloc | apply pw_below_drewN | apply below_drew1 | refine below_set ?_ GE101.out | refine below_set ?_ GE108.out | refine below_set ?_ GE110.out) | exact HB.out)⟩⟩
              · rw [if_neg c23] at H
                exact absurd H (by simp)
            · rw [if_neg c22] at H
              have c22b0 : decide (x9_2 < a0) = false := decide_eq_false c22
              clear c22
              simp only [Option.some.injEq, Prod.mk.injEq] at H
              obtain ⟨rfl, rfl, rfl, rfl, rfl⟩ := H
              have hnb30 := NB110_101.out
              have hnc30 := NB101_110.out
              have hnb31 := NB110_108.out
              have hnc31 := NB108_110.out
              have hcz32_0 : wr.cell? ⟨gb110, 0, none⟩ = some (.string t102) := (blk_cell BK110.out 0).trans rfl
              have hcz32_1 : wr.cell? ⟨gb110, 1, none⟩ = some (.string t103) := (blk_cell BK110.out 1).trans rfl
              have hcz32_2 : wr.cell? ⟨gb110, 2, none⟩ = some (.slice Ao10 t104.length co10) := (blk_cell BK110.out 2).trans rfl
              have hcz32_3 : wr.cell? ⟨gb110, 3, none⟩ = some (u111003) := (blk_cell BK110.out 3).trans rfl
              have hfz32_0 := blk_frozen BK110.out 0
              have hfz32_1 := blk_frozen BK110.out 1
              have hfz32_2 := blk_frozen BK110.out 2
              have hfz32_3 := blk_frozen BK110.out 3
              have hnb33 := NB101_108.out
              have hnc33 := NB108_101.out
              have hcz34_0 : wr.cell? ⟨gb101, 0, none⟩ = some (.string (⟨#[]⟩ : ByteArray)) := (blk_cell BK101.out 0).trans rfl
              have hcz34_1 : wr.cell? ⟨gb101, 1, none⟩ = some (.string (⟨#[]⟩ : ByteArray)) := (blk_cell BK101.out 1).trans rfl
              have hcz34_2 : wr.cell? ⟨gb101, 2, none⟩ = some (.slice none 0 0) := (blk_cell BK101.out 2).trans rfl
              have hcz34_3 : wr.cell? ⟨gb101, 3, none⟩ = some (.slice none 0 0) := (blk_cell BK101.out 3).trans rfl
              have hfz34_0 := blk_frozen BK101.out 0
              have hfz34_1 := blk_frozen BK101.out 1
              have hfz34_2 := blk_frozen BK101.out 2
              have hfz34_3 := blk_frozen BK101.out 3
              obtain ⟨Ao35, co35, eo35⟩ := Kd.S_slice HO_111003.out
              subst eo35
              go_wp2
              refine bodyPost_ret (results_ct rfl _ _ gb101 27 #[.string t102, .string t103, .slice Ao10 t104.length co10, .slice Ao35 x111003_2.length co35] (0, 0) _ rfl (by (with_reducible repeat (first | refine blk_drewN ?_ _ | refine blk_drew ?_ | refine blk_alloc ?_ _)); refine blk_put (cs := #[.string t102, .string t103, .slice Ao10 t104.length co10, .slice none 0 0]) ?_ 3 _ rfl; (with_reducible repeat (first | refine blk_drewN ?_ _ | refine blk_drew ?_ | refine blk_alloc ?_ _)); refine blk_put (cs := #[.string t102, .string t103, .slice none 0 0, .slice none 0 0]) ?_ 2 _ rfl; (with_reducible repeat (first | refine blk_drewN ?_ _ | refine blk_drew ?_ | refine blk_alloc ?_ _)); refine blk_put (cs := #[.string t102, .string (⟨#[]⟩ : ByteArray), .slice none 0 0, .slice none 0 0]) ?_ 1 _ rfl; (with_reducible repeat (first | refine blk_drewN ?_ _ | refine blk_drew ?_ | refine blk_alloc ?_ _)); refine blk_put (cs := #[.string (⟨#[]⟩ : ByteArray), .string (⟨#[]⟩ : ByteArray), .slice none 0 0, .slice none 0 0]) ?_ 0 _ rfl; (with_reducible repeat (first | refine blk_drewN ?_ _ | refine blk_drew ?_ | refine blk_alloc ?_ _)); exact BK101.out) Try.underlying27 rfl (by kernel_rfl)) rfl ?_
              exact ⟨_, _, by first | rfl | (simp [errW_none, errW_some] <;> rfl) | (simp [*, errW_none, errW_some] <;> rfl), by (with_reducible repeat (first | apply Kd.S_alloc | apply Kd.S_drewN | apply Kd.S_drew)); exact Kd.S_mono (Kd.S_far (p := ⟨gb101, 3, none⟩) (Kd.S_far (p := ⟨gb101, 2, none⟩) (Kd.S_far (p := ⟨gb101, 1, none⟩) (Kd.S_far (p := ⟨gb101, 0, none⟩) (Kd.S_types HO_111002.out BK101.out (by decide)) (fun _ hk => hk.2) (.string t102)) (fun _ hk => hk.2) (.string t103)) (fun _ hk => hk.2) (.slice Ao10 t104.length co10)) (fun _ hk => hk.2) (.slice Ao35 x111003_2.length co35)) (fun _ hk => trivial), by (with_reducible repeat (first | apply Kd.S_alloc | apply Kd.S_drewN | apply Kd.S_drew)); exact Kd.S_mono (Kd.S_far (p := ⟨gb101, 3, none⟩) (Kd.S_far (p := ⟨gb101, 2, none⟩) (Kd.S_far (p := ⟨gb101, 1, none⟩) (Kd.S_far (p := ⟨gb101, 0, none⟩) (Kd.S_types HO_111003.out BK101.out (by decide)) (fun _ hk => hk.2) (.string t102)) (fun _ hk => hk.2) (.string t103)) (fun _ hk => hk.2) (.slice Ao10 t104.length co10)) (fun _ hk => hk.2) (.slice Ao35 x111003_2.length co35)) (fun _ hk => trivial), by repeat (first | (with_reducible first | exact HB.out | apply below_alloc | apply pw_below_drewN | apply below_drew1 | refine below_set ?_ GE101.out | refine below_set ?_ GE108.out | refine below_set ?_ GE110.out) | exact HB.out)⟩
end
def newCl (s : ByteArray) (i : Nat) : Client := ⟨(i : Int), s, 0, 0, false, [], [], false⟩
def newCs (s : ByteArray) (n : Nat) : List Client := (List.range n).map (newCl s)
theorem newCs_succ (s : ByteArray) (n : Nat) : newCs s (n + 1) = newCs s n ++ [newCl s n] := by simp [newCs, List.range_succ]
theorem newCs_length (s : ByteArray) (n : Nat) : (newCs s n).length = n := by simp [newCs]
theorem newCs_bare (s : ByteArray) (n : Nat) : bareC (newCs s n) := by
  intro y hy
  simp only [newCs, List.mem_map] at hy
  obtain ⟨i, _, rfl⟩ := hy
  exact ⟨rfl, rfl⟩
def newM (c : Int) (s : ByteArray) : ByteArray × ByteArray × List Entry × List Client × Bool :=
  if textB s = true ∧ 1 ≤ c ∧ c ≤ 4 then (s, s, [], newCs s c.toNat, true) else (⟨#[]⟩, ⟨#[]⟩, [], [], false)
theorem newM_small (c : Int) (s : ByteArray) : (newM c s).2.2.1 = [] ∧ (newM c s).2.2.2.1.length ≤ 4 ∧ bareC (newM c s).2.2.2.1 := by
  unfold newM
  split
  · refine ⟨rfl, ?_, newCs_bare _ _⟩
    rw [newCs_length]; omega
  · exact ⟨rfl, by simp, by intro y hy; simp at hy⟩
theorem implNew_loop (s : ByteArray) (c : Int) (hc : c ≤ 4) (d : Nat) : ∀ i : Nat, (i : Int) + d = c → Ev (fun k => impl_NewMeeting.l0 k s c (i : Int) s s [] (newCs s i)) (s, s, [], newCs s c.toNat, true) := by
  induction d with
  | zero =>
    intro i h
    refine Ev.succ ?_
    simp only [impl_NewMeeting.l0, if_neg (show ¬ ((i : Int) < c) by omega)]
    refine ev_eq (Ev.now _) ?_
    rw [show c.toNat = i by omega]
  | succ d ih =>
    intro i h
    refine Ev.succ ?_
    simp only [impl_NewMeeting.l0, if_pos (show ((i : Int) < c) by omega), newCs_length, if_pos (show i < 1353245080339 by omega), w64 (show -9223372036854775808 ≤ (i : Int) + 1 by omega) (by omega)]
    have := ih (i + 1) (by omega)
    rw [newCs_succ] at this
    exact this
theorem specNew_loop (s : ByteArray) (c : Int) (hc : c ≤ 4) (d : Nat) : ∀ i : Nat, (i : Int) + d = c → Ev (fun k => spec_NewMeeting.l0 k c s (i : Int) s s [] (newCs s i)) (s, s, [], newCs s c.toNat, true) := by
  induction d with
  | zero =>
    intro i h
    refine Ev.succ ?_
    simp only [spec_NewMeeting.l0, if_neg (show ¬ ((i : Int) < c) by omega)]
    refine ev_eq (Ev.now _) ?_
    rw [show c.toNat = i by omega]
  | succ d ih =>
    intro i h
    refine Ev.succ ?_
    simp only [spec_NewMeeting.l0, if_pos (show ((i : Int) < c) by omega), newCs_length, if_pos (show i < 1353245080339 by omega), w64 (show -9223372036854775808 ≤ (i : Int) + 1 by omega) (by omega)]
    have := ih (i + 1) (by omega)
    rw [newCs_succ] at this
    exact this
theorem implNew_jT (c : Int) (s a t : ByteArray) (l : List Entry) : Ev (fun k => impl_NewMeeting.j0 k c s true a t l) (⟨#[]⟩, ⟨#[]⟩, [], [], false) := by
  refine Ev.succ ?_
  simp only [impl_NewMeeting.j0, if_true]
  exact Ev.now _
theorem specNew_jT (c : Int) (s a t : ByteArray) (l : List Entry) : Ev (fun k => spec_NewMeeting.j0 k c s true a t l) (⟨#[]⟩, ⟨#[]⟩, [], [], false) := by
  refine Ev.succ ?_
  simp only [spec_NewMeeting.j0, if_true]
  exact Ev.now _
theorem implNew_ev (c : Int) (s : ByteArray) (hs : s.size ≤ maxLen) : Ev (fun k => impl_NewMeeting.f k c s) (newM c s) := by
  unfold impl_NewMeeting.f impl_NewServer.f newM
  cases p : textB s with
  | false =>
    refine Ev.bind (Ev.bind (p ▸ implText_ev s hs) (by simp only [Bool.false_eq_true, if_false]; exact Ev.now _)) ?_
    simp only [Bool.false_eq_true, if_false, false_and]
    exact implNew_jT _ _ _ _ _
  | true =>
    refine Ev.bind (Ev.bind (p ▸ implText_ev s hs) (by simp only [if_true]; exact Ev.now _)) ?_
    simp only [if_true, true_and]
    by_cases b : c < 1
    · simp only [if_pos b, if_neg (show ¬ (1 ≤ c ∧ c ≤ 4) by omega)]; exact implNew_jT _ _ _ _ _
    · by_cases d : c > 4
      · simp only [if_neg b, decide_eq_true d, if_neg (show ¬ (1 ≤ c ∧ c ≤ 4) by omega)]; exact implNew_jT _ _ _ _ _
      · simp only [if_neg b, decide_eq_false d, if_pos (show (1 ≤ c ∧ c ≤ 4) by omega)]
        refine Ev.succ ?_
        simp only [impl_NewMeeting.j0, Bool.false_eq_true, if_false]
        exact implNew_loop s c (by omega) c.toNat 0 (by omega)
theorem specNew_ev (c : Int) (s : ByteArray) (hs : s.size ≤ maxLen) : Ev (fun k => spec_NewMeeting.f k c s) (newM c s) := by
  unfold spec_NewMeeting.f spec_NewServer.f newM
  cases p : textB s with
  | false =>
    refine Ev.bind (Ev.bind (p ▸ specText_ev s hs) (by simp only [Bool.false_eq_true, if_false]; exact Ev.now _)) ?_
    simp only [Bool.false_eq_true, if_false, false_and]
    exact specNew_jT _ _ _ _ _
  | true =>
    refine Ev.bind (Ev.bind (p ▸ specText_ev s hs) (by simp only [if_true]; exact Ev.now _)) ?_
    simp only [if_true, true_and, l1In_val, Option.bind_some]
    by_cases b : 1 ≤ c ∧ c ≤ 4
    · rw [if_pos b, decide_eq_true b.1, decide_eq_true b.2]
      simp only [Bool.and_self, Bool.not_true]
      refine Ev.succ ?_
      simp only [spec_NewMeeting.j0, Bool.false_eq_true, if_false]
      exact specNew_loop s c (by omega) c.toNat 0 (by omega)
    · rw [if_neg b, show (decide (1 ≤ c) && decide (c ≤ 4)) = false by rw [← Bool.decide_and]; exact decide_eq_false b]
      simp only [Bool.not_false]
      exact specNew_jT _ _ _ _ _
theorem fill4 {w w3 : World} {g : Nat} {t : TypeId} {z0 z1 z2 z3 v0 v1 v2 v3 : Value} (hb : Below w.heap.size w w3) (hg : w.heap.size ≤ g) (h : w3.heap[g]? = some (.cells #[z0, z1, z2, z3] t (0, 0))) :
    ((((w3.setCell ⟨g, 0, none⟩ v0).setCell ⟨g, 1, none⟩ v1).setCell ⟨g, 2, none⟩ v2).setCell ⟨g, 3, none⟩ v3).heap[g]? = some (.cells #[v0, v1, v2, v3] t (0, 0)) ∧ Below w.heap.size w ((((w3.setCell ⟨g, 0, none⟩ v0).setCell ⟨g, 1, none⟩ v1).setCell ⟨g, 2, none⟩ v2).setCell ⟨g, 3, none⟩ v3) :=
  ⟨blk_put (cs' := #[v0, v1, v2, v3]) (blk_put (cs' := #[v0, v1, v2, z3]) (blk_put (cs' := #[v0, v1, z2, z3]) (blk_put (cs' := #[v0, z1, z2, z3]) h 0 v0 rfl) 1 v1 rfl) 2 v2 rfl) 3 v3 rfl, below_set (below_set (below_set (below_set hb hg) hg) hg) hg⟩
theorem S_rngC {W W' : World} {v : Value} {l : List Client} (h : Kd.S k51 51 W' W.heap.size (fun _ => True) v l) : Kd.S k51 51 W' W.heap.size (fun k => W.heap.size ≤ k ∧ k < W'.heap.size) v l := Kd.S_mono (Kd.S_bound h) (fun k hk => ⟨hk.2.1, hk.2.2.1⟩)
theorem S_keptC {W W' : World} {base lo hi : Nat} {v : Value} {l : List Client} {ok : Nat → Prop} (h : Kd.S k51 51 W base (fun k => lo ≤ k ∧ k < hi) v l) (hk : Kept W W' ok) (hd : ∀ k, lo ≤ k → k < hi → ¬ ok k) : Kd.S k51 51 W' base (fun k => lo ≤ k ∧ k < hi) v l :=
  Kd.S_step h (fun k h1 hlt => hk.2 k hlt (hd k h1.1 h1.2))
theorem C_nil_any {W : World} {A : Option Addr} (h : Kd.C k67 W A ([] : List Entry).length []) (W'_ : World) : Kd.C k67 W'_ A ([] : List Entry).length [] := ⟨rfl, by simp, fun h => absurd h (Nat.lt_irrefl 0)⟩
theorem blk_keptC {W W' : World} {g : Nat} {o : Obj} {ok : Nat → Prop} (h : W.heap[g]? = some o) (hk : Kept W W' ok) (hg : ¬ ok g) : W'.heap[g]? = some o := (hk.2 g (blk_lt h) hg).trans h

set_option maxHeartbeats 2000000 in
theorem markServer_nil (a t : ByteArray) (AL : Option Addr) (cL : Nat) (n : Int) (hn : 0 ≤ n) (w : World) :
    Calls Try.prog 22 #[.agg #[.string a, .string t, .slice AL 0 cL], .int .i64 n] w fun e w' => e = .returned (.int .i64 n) ∧ Below w.heap.size w w' := by
  go_enter Try.func22, Try.ntmps22
  go_wp2_with ((with_reducible refine gate_dst (N := 2) rfl ?_); refine bx 2 #[.string a, .string t, .slice AL 0 cL] 24 ?_; intro g hg w1 hbox hb1; have HB1 := mz hb1; obtain ⟨x0, x1, x2⟩ := cells3 hbox; clear hg hbox hb1)
  refine (markEntry_nil AL cL n _).mono ?_
  rintro e w2 ⟨rfl, hb⟩
  have HB2 := mz (below_step HB1.out hb)
  clear hb
  go_wp2_with fail
  go_ret
  exact ⟨rfl, HB2.out⟩
set_option maxHeartbeats 2000000 in
theorem heldServer_nil (a t : ByteArray) (AL : Option Addr) (cL : Nat) (n : Int) (hn : 0 ≤ n) (w : World) :
    Calls Try.prog 24 #[.agg #[.string a, .string t, .slice AL 0 cL], .int .i64 n] w fun e w' => e = .returned (.int .i64 n) ∧ Below w.heap.size w w' := by
  go_enter Try.func24, Try.ntmps24
  go_wp2_with ((with_reducible refine gate_dst (N := 2) rfl ?_); refine bx 2 #[.string a, .string t, .slice AL 0 cL] 24 ?_; intro g hg w1 hbox hb1; have HB1 := mz hb1; obtain ⟨x0, x1, x2⟩ := cells3 hbox; clear hg hbox hb1)
  refine (heldEntry_nil AL cL n _).mono ?_
  rintro e w2 ⟨rfl, hb⟩
  have HB2 := mz (below_step HB1.out hb)
  clear hb
  go_wp2_with fail
  go_ret
  exact ⟨rfl, HB2.out⟩
set_option maxHeartbeats 4000000 in
theorem markMeeting_walk (a t : ByteArray) (AL : Option Addr) (cL : Nat) (A3 : Option Addr) (c3 : Nat) (cs : List Client) (ok : Nat → Prop) (n : Int) (w0 w : World) (hB : Below w0.heap.size w0 w) (hS : Kd.S k51 51 w w0.heap.size ok (.slice A3 cs.length c3) cs) (hl : bareC cs) (hn0 : 0 ≤ n) (hb : n + 6 * (cs.length : Int) ≤ 4000000000000000) :
    Calls Try.prog 9 #[.agg #[.string a, .string t, .slice AL 0 cL, .slice A3 cs.length c3], .int .i64 n] w fun e w' => e = .returned (.int .i64 (n + 6 * (cs.length : Int))) ∧ Kd.S k51 51 w' w0.heap.size ok (.slice A3 cs.length c3) (markC n cs) ∧ Below w0.heap.size w0 w' ∧ Kept w w' ok := by
  have HS := mz hS
  have HB := mz hB
  have HN := mz hb
  have HN0 := mz hn0
  have HL := mz hl
  clear hS hB hb hn0 hl
  go_enter Try.func9, Try.ntmps9
  go_wp2_with ((with_reducible refine gate_dst (N := 2) rfl ?_); refine bx 2 #[.string a, .string t, .slice AL 0 cL, .slice A3 cs.length c3] 27 ?_; intro g hg w1 hbox hb1; have HB1 := mz hb1; have BK1 := mz hbox; obtain ⟨x0, x1, x2, x3⟩ := cells4 hbox; clear hg hbox hb1)
  refine (markServer_nil a t AL cL n HN0.out _).mono ?_
  rintro e w2 ⟨rfl, hb⟩
  have HB2 := mz (below_step HB1.out hb)
  have BK2 := mz (blk_below BK1.out hb)
  clear hb x0 x1 x2 x3
  obtain ⟨x0, x1, x2, x3⟩ := cells4 BK2.out
  go_wp2_with fail
  refine (markClientS_walk (.slice A3 cs.length c3) ok cs n w0 w2 (HB.out.trans (HB2.out.mono HB.out.size)) (Kd.S_below HS.out HB2.out) HL.out HN0.out HN.out).mono ?_
  rintro e w3 ⟨rfl, hS3, hB3, hK3⟩
  have HS3 := mz hS3
  have HB3 := mz hB3
  have HK3 : Aside0 (Kept w w3 ok) := ⟨⟨Nat.le_trans HB2.out.size hK3.1, fun i hi hni => (hK3.2 i (Nat.lt_of_lt_of_le hi HB2.out.size) hni).trans (HB2.out.block i hi)⟩⟩
  clear hS3 hB3 hK3 x0 x1 x2 x3
  go_wp2_with fail
  go_ret
  exact ⟨rfl, HS3.out, HB3.out, HK3.out⟩
set_option maxHeartbeats 4000000 in
theorem heldMeeting_walk (a t : ByteArray) (AL : Option Addr) (cL : Nat) (A3 : Option Addr) (c3 : Nat) (cs : List Client) (n : Int) (w : World) (hr : Kd.C k51 w A3 cs.length (markC n cs)) (hn0 : 0 ≤ n) (hb : n + 6 * (cs.length : Int) ≤ 4000000000000000) :
    Calls Try.prog 10 #[.agg #[.string a, .string t, .slice AL 0 cL, .slice A3 cs.length c3], .int .i64 n] w fun e w' => e = .returned (.int .i64 (n + 6 * (cs.length : Int))) ∧ Below w.heap.size w w' := by
  have HR := mz hr
  have HN := mz hb
  have hlz : ¬ n < 0 := by omega
  have hlz2 : ¬ n + 6 * (cs.length : Int) < 0 := by omega
  have HN0 := mz hn0
  clear hr hb hn0
  go_enter Try.func10, Try.ntmps10
  go_wp2_with ((with_reducible refine gate_dst (N := 2) rfl ?_); refine bx 2 #[.string a, .string t, .slice AL 0 cL, .slice A3 cs.length c3] 27 ?_; intro g hg w1 hbox hb1; have HB1 := mz hb1; have BK1 := mz hbox; obtain ⟨x0, x1, x2, x3⟩ := cells4 hbox; clear hg hbox hb1)
  refine (heldServer_nil a t AL cL n HN0.out _).mono ?_
  rintro e w2 ⟨rfl, hb⟩
  have HB2 := mz (below_step HB1.out hb)
  have BK2 := mz (blk_below BK1.out hb)
  clear hb x0 x1 x2 x3
  obtain ⟨x0, x1, x2, x3⟩ := cells4 BK2.out
  go_wp2_with fail
  refine (heldClientS_walk A3 c3 cs n _ (Kd.C_below HR.out HB2.out) HN0.out HN.out).mono ?_
  rintro e w3 ⟨rfl, hb⟩
  have HB3 := mz (below_step HB2.out hb)
  clear hb x0 x1 x2 x3
  go_wp2_with fail
  go_ret
  exact ⟨rfl, HB3.out⟩
set_option maxHeartbeats 16000000 in
set_option maxRecDepth 100000 in
theorem nm_walk (c : Int) (s : ByteArray) (w : World) (hs : s.size ≤ maxLen) :
    Calls Try.prog 3 #[.int .i64 c, .string s] w fun e w' => e = .returned (.bool true) ∧ Below w.heap.size w w' := by
  have hsl : (s.size : Int) ≤ 9223372036854775807 := by simp only [maxLen] at hs; omega
  by_cases hbig : (1048576 : Int) < (s.size : Int)
  · clear hs
    go_enter Try.func3, Try.ntmps3
    go_wp2_with fail
    go_ret
    exact ⟨rfl, Below.refl _ _⟩
  obtain ⟨K1, hK1⟩ := Ev.rounds (specNew_ev c s hs)
  obtain ⟨K2, hK2⟩ := Ev.rounds (implNew_ev c s hs)
  have hsm := newM_small c s
  obtain ⟨⟨r1, r2, r3, r4, r5⟩, hV⟩ : ∃ p, newM c s = p := ⟨_, rfl⟩
  rw [hV] at hK1 hK2 hsm
  obtain ⟨h3, h4, hbare⟩ := hsm
  simp only at h3 h4 hbare
  subst h3
  obtain ⟨K3, hK3⟩ := Ev.rounds (eqMeeting_ev r1 r2 [] r4 ⟨by simp, by simp⟩ ⟨by simp only [maxLen]; omega, fun y hy => by rw [(hbare y hy).1, (hbare y hy).2]; exact ⟨Nat.zero_le _, Nat.zero_le _⟩⟩)
  have HK1 := mz hK1
  have HK2 := mz hK2
  have HK3 := mz hK3
  have HL := mz hbare
  have H4 := mz h4
  have h4n : 1 + 6 * (r4.length : Int) ≤ 4000000000000000 := by omega
  have HN := mz h4n
  have hq1 : ¬ 1 + 6 * (r4.length : Int) < 0 := by omega
  have hq2 : ((1 + 6 * (r4.length : Int)) != (1 + 6 * (r4.length : Int))) = false := bne_self_eq_false _
  have hq3 : (r5 != r5) = false := bne_self_eq_false _
  clear hs hK1 hK2 hK3 hV hbare h4 h4n
  go_enter Try.func3, Try.ntmps3
  go_wp2_with fail
  refine (spec_NewMeeting.calls K1 c s r1 r2 [] r4 r5 _ HK1.out).mono ?_
  rintro e w1 ⟨v2_, v3_, rfl, hS2, hS3, hb⟩
  obtain ⟨AL1, cL1, rfl⟩ := Kd.S_slice hS2
  obtain ⟨A1, c1, rfl, h1, h2⟩ := Kd.S_reads hS3
  simp only [List.length_nil] at hS2 ⊢
  have R1 := mz h2
  have L1 := mz h1
  have S1 := mz (S_rngC hS3)
  have M1 := mz (Kd.S_reads' hS2).2.2
  have ML1 := mz (Kd.S_reads' hS2).2.1
  have HB1 := mz hb
  clear hS2 hS3 h1 h2 hb
  go_wp2_with ((with_reducible refine gate_dst (N := 5) rfl ?_); refine bx 5 #[.string ⟨#[]⟩, .string ⟨#[]⟩, .slice none 0 0, .slice none 0 0] 27 ?_; intro g5 hg w_ hbox hb; have HBZ := mz hb; have BZ := mz hbox; have GX : Aside0 (w1.heap.size ≤ g5) := ⟨by rw [hg]; first | exact Nat.le_refl _ | simp⟩; obtain ⟨z0, z1, z2, z3⟩ := cells4 hbox; have f0 := blk_frozen hbox 0; have f1 := blk_frozen hbox 1; have f2 := blk_frozen hbox 2; have f3 := blk_frozen hbox 3; clear hb hbox hg)
  obtain ⟨hbk, hbb⟩ := fill4 (v0 := .string r1) (v1 := .string r2) (v2 := .slice AL1 0 cL1) (v3 := .slice A1 r4.length c1) HBZ.out GX.out BZ.out
  clear z0 z1 z2 z3 f0 f1 f2 f3 BZ HBZ
  generalize (((w_.setCell ⟨g5, 0, none⟩ (.string r1)).setCell ⟨g5, 1, none⟩ (.string r2)).setCell ⟨g5, 2, none⟩ (.slice AL1 0 cL1)).setCell ⟨g5, 3, none⟩ (.slice A1 r4.length c1) = w2 at hbk hbb ⊢
  have B12 := mz hbb
  have BK2 := mz hbk
  have HB2 := mz (below_step HB1.out hbb)
  clear hbk hbb GX
  refine (impl_NewMeeting.calls K2 c s r1 r2 [] r4 r5 _ HK2.out).mono ?_
  rintro e w3 ⟨v2_, v3_, rfl, hS2, hS3, hb⟩
  obtain ⟨AL3, cL3, rfl⟩ := Kd.S_slice hS2
  obtain ⟨A3, c3, rfl, h1, h2⟩ := Kd.S_reads hS3
  simp only [List.length_nil] at hS2 ⊢
  have R3 := mz h2
  have L3 := mz h1
  have S3 := mz (S_rngC hS3)
  have M3 := mz (Kd.S_reads' hS2).2.2
  have ML3 := mz (Kd.S_reads' hS2).2.1
  have B23 := mz hb
  have B13 := mz (below_step B12.out hb)
  have HB3 := mz (below_step HB2.out hb)
  have BK3 := mz (blk_below BK2.out hb)
  clear hS2 hS3 h1 h2 hb
  go_upto_region 5 with ((with_reducible refine gate_dst (N := 7) rfl ?_); refine bx 7 #[.string ⟨#[]⟩, .string ⟨#[]⟩, .slice none 0 0, .slice none 0 0] 27 ?_; intro g7 hg w_ hbox hb; have HBZ := mz hb; have BZ := mz hbox; have GX : Aside0 (w3.heap.size ≤ g7) := ⟨by rw [hg]; first | exact Nat.le_refl _ | simp⟩; obtain ⟨z0, z1, z2, z3⟩ := cells4 hbox; have f0 := blk_frozen hbox 0; have f1 := blk_frozen hbox 1; have f2 := blk_frozen hbox 2; have f3 := blk_frozen hbox 3; clear hb hbox hg)
  obtain ⟨hbk, hbb⟩ := fill4 (v0 := .string r1) (v1 := .string r2) (v2 := .slice AL3 0 cL3) (v3 := .slice A3 r4.length c3) HBZ.out GX.out BZ.out
  clear z0 z1 z2 z3 f0 f1 f2 f3 BZ HBZ
  generalize (((w_.setCell ⟨g7, 0, none⟩ (.string r1)).setCell ⟨g7, 1, none⟩ (.string r2)).setCell ⟨g7, 2, none⟩ (.slice AL3 0 cL3)).setCell ⟨g7, 3, none⟩ (.slice A3 r4.length c3) = w4 at hbk hbb ⊢
  have B34 := mz hbb
  have BX4 := mz hbk
  have BK4 := mz (blk_below BK3.out hbb)
  have HB4 := mz (below_step HB3.out hbb)
  have G7 := GX
  clear hbk hbb GX
  obtain ⟨x0, x1, x2, x3⟩ := cells4 BX4.out
  obtain ⟨y0, y1, y2, y3⟩ := cells4 BK4.out
  go_wp2_with fail
  refine (laws_eqMeeting.calls K3 r1 r2 AL3 cL3 [] A3 c3 r4 r1 r2 AL1 cL1 [] A1 c1 r4 true _ (Kd.C_below M3.out B34.out) ML3.out (Kd.C_below R3.out B34.out) L3.out (Kd.C_below M1.out (below_step B13.out B34.out)) ML1.out (Kd.C_below R1.out (below_step B13.out B34.out)) L1.out HK3.out).mono ?_
  rintro e w5 ⟨rfl, hb⟩
  have HB5 := mz (below_step HB4.out hb)
  have BX5 := mz (blk_below BX4.out hb)
  have BK5 := mz (blk_below BK4.out hb)
  have B35 := mz (below_step B34.out hb)
  clear hb x0 x1 x2 x3 y0 y1 y2 y3
  obtain ⟨x0, x1, x2, x3⟩ := cells4 BX5.out
  obtain ⟨y0, y1, y2, y3⟩ := cells4 BK5.out
  go_wp2_with fail
  have B25 := mz (below_step B23.out B35.out)
  have hSm := Kd.S_below S3.out B35.out
  refine (markMeeting_walk r1 r2 AL3 cL3 A3 c3 r4 (fun k => w2.heap.size ≤ k ∧ k < w3.heap.size) 1 w2 w5 B25.out hSm HL.out (by omega) HN.out).mono ?_
  clear hSm
  rintro e w6 ⟨rfl, hS6, hB6, hK6⟩
  have S6 := mz hS6
  have HB6 := mz (below_step HB2.out hB6)
  have B26 := mz hB6
  have BX6 := mz (blk_keptC BX5.out hK6 (fun h => by have := G7.out; have := h.2; omega))
  have BK6 := mz (blk_keptC BK5.out hK6 (fun h => by have := blk_lt BK2.out; have := h.1; omega))
  have S16 := mz (S_keptC (Kd.S_below S1.out (below_step B13.out B35.out)) hK6 (fun k h1 h2 h => by have := h.1; have := B12.out.size; omega))
  clear hS6 hB6 hK6 x0 x1 x2 x3 y0 y1 y2 y3
  obtain ⟨x0, x1, x2, x3⟩ := cells4 BX6.out
  obtain ⟨y0, y1, y2, y3⟩ := cells4 BK6.out
  go_wp2_with fail
  refine (heldMeeting_walk r1 r2 AL3 cL3 A3 c3 r4 1 _ (by have := (Kd.S_reads' S6.out).2.2; rwa [markC_length] at this) (by omega) HN.out).mono ?_
  rintro e w7 ⟨rfl, hb⟩
  have HB7 := mz (below_step HB6.out hb)
  have BX7 := mz (blk_below BX6.out hb)
  have BK7 := mz (blk_below BK6.out hb)
  have B67 := mz hb
  clear hb x0 x1 x2 x3 y0 y1 y2 y3
  obtain ⟨x0, x1, x2, x3⟩ := cells4 BX7.out
  obtain ⟨y0, y1, y2, y3⟩ := cells4 BK7.out
  go_wp2_with fail
  refine (impl_NewMeeting.calls K2 c s r1 r2 [] r4 r5 _ HK2.out).mono ?_
  rintro e w8 ⟨v2_, v3_, rfl, hS2, hS3, hb⟩
  obtain ⟨AL8, cL8, rfl⟩ := Kd.S_slice hS2
  obtain ⟨A8, c8, rfl, h1, h2⟩ := Kd.S_reads hS3
  simp only [List.length_nil] at hS2 ⊢
  have R8 := mz h2
  have L8 := mz h1
  have M8 := mz (Kd.S_reads' hS2).2.2
  have ML8 := mz (Kd.S_reads' hS2).2.1
  have HB8 := mz (below_step HB7.out hb)
  have BX8 := mz (blk_below BX7.out hb)
  have BK8 := mz (blk_below BK7.out hb)
  have B68 := mz (below_step B67.out hb)
  clear hS2 hS3 h1 h2 hb x0 x1 x2 x3 y0 y1 y2 y3
  go_upto_region 16 with ((with_reducible refine gate_dst (N := 11) rfl ?_); refine bx 11 #[.string ⟨#[]⟩, .string ⟨#[]⟩, .slice none 0 0, .slice none 0 0] 27 ?_; intro g11 hg w_ hbox hb; have HBZ := mz hb; have BZ := mz hbox; have GX : Aside0 (w8.heap.size ≤ g11) := ⟨by rw [hg]; first | exact Nat.le_refl _ | simp⟩; obtain ⟨z0, z1, z2, z3⟩ := cells4 hbox; have f0 := blk_frozen hbox 0; have f1 := blk_frozen hbox 1; have f2 := blk_frozen hbox 2; have f3 := blk_frozen hbox 3; clear hb hbox hg)
  obtain ⟨hbk, hbb⟩ := fill4 (v0 := .string r1) (v1 := .string r2) (v2 := .slice AL8 0 cL8) (v3 := .slice A8 r4.length c8) HBZ.out GX.out BZ.out
  clear z0 z1 z2 z3 f0 f1 f2 f3 BZ HBZ
  generalize (((w_.setCell ⟨g11, 0, none⟩ (.string r1)).setCell ⟨g11, 1, none⟩ (.string r2)).setCell ⟨g11, 2, none⟩ (.slice AL8 0 cL8)).setCell ⟨g11, 3, none⟩ (.slice A8 r4.length c8) = w9 at hbk hbb ⊢
  have hb := hbb
  have B89 := mz hbb
  have HB9 := mz (below_step HB8.out hb)
  have BX9 := mz (blk_below BX8.out hb)
  have BK9 := mz (blk_below BK8.out hb)
  have B69 := mz (below_step B68.out hbb)
  obtain ⟨u0, u1, u2, u3⟩ := cells4 hbk
  clear hbk hbb hb GX
  obtain ⟨x0, x1, x2, x3⟩ := cells4 BX9.out
  obtain ⟨y0, y1, y2, y3⟩ := cells4 BK9.out
  go_wp2_with fail
  refine (laws_eqMeeting.calls K3 r1 r2 AL8 cL8 [] A8 c8 r4 r1 r2 AL1 cL1 [] A1 c1 r4 true _ (Kd.C_below M8.out B89.out) ML8.out (Kd.C_below R8.out B89.out) L8.out (C_nil_any M1.out _) ML1.out (Kd.S_reads' (Kd.S_below S16.out B69.out)).2.2 L1.out HK3.out).mono ?_
  rintro e w10 ⟨rfl, hb⟩
  have HB10 := mz (below_step HB9.out hb)
  have BX10 := mz (blk_below BX9.out hb)
  have BK10 := mz (blk_below BK9.out hb)
  have B610 := mz (below_step B69.out hb)
  clear hb u0 u1 u2 u3 x0 x1 x2 x3 y0 y1 y2 y3
  obtain ⟨x0, x1, x2, x3⟩ := cells4 BX10.out
  obtain ⟨y0, y1, y2, y3⟩ := cells4 BK10.out
  go_wp2_with fail
  refine (heldMeeting_walk r1 r2 AL3 cL3 A3 c3 r4 1 _ (by have := (Kd.S_reads' (Kd.S_below S6.out B610.out)).2.2; rwa [markC_length] at this) (by omega) HN.out).mono ?_
  rintro e w11 ⟨rfl, hb⟩
  have HB11 := mz (below_step HB10.out hb)
  clear hb x0 x1 x2 x3 y0 y1 y2 y3
  go_wp2_with fail
  go_ret
  exact ⟨rfl, HB11.out⟩

open Classical in
noncomputable def laws_FnExactNewMeeting.f (a0 : Int) (a1 : ByteArray) : Option (Bool) := if a1.size ≤ maxLen then some true else none
theorem laws_FnExactNewMeeting.calls (a0 : Int) (a1 : ByteArray) (r : Bool) (w : World) (h : laws_FnExactNewMeeting.f a0 a1 = some r) :
    Calls Try.prog 3 #[.int .i64 a0, .string a1] w fun e w' => e = .returned (.bool r) ∧ Below w.heap.size w w' := by
  unfold laws_FnExactNewMeeting.f at h
  by_cases hs : a1.size ≤ maxLen
  · rw [if_pos hs] at h
    obtain rfl := Option.some.inj h
    exact nm_walk a0 a1 w hs
  · rw [if_neg hs] at h
    exact absurd h (by simp)
section
attribute [local go_sem] max2_int min2_int max_two min_two max_three min_three max_four min_four
def PureFnExactNewMeeting : Prop := ∀ (a0 : Int), ∀ (a1 : ByteArray), (Lit.int .i64 a0).wf = true → a1.size ≤ maxLen → laws_FnExactNewMeeting.f a0 a1 = some true
end
end Go.Proofs.Ytoldjejfninhkaa.X
namespace Go.Proofs.Ytoldjejfninhkaa.Pure
open Go.RowKit Go.Proofs.Ytoldjejfninhkaa.X Go.Proofs.YtoldjejfninhkaaW.PrintWords Go.Proofs.YtoldjejfninhkaaW.PrintLast
theorem FnExactNewMeeting : PureFnExactNewMeeting := by
  intro c s hc hs
  unfold laws_FnExactNewMeeting.f
  rw [if_pos hs]
end Go.Proofs.Ytoldjejfninhkaa.Pure
namespace Go.Proofs.Ytoldjejfninhkaa.fnExactNewMeeting
open Go.ChangeShapes Go.WideShapes Go.ChangeAt Go.RowKit
open Go.ChangeMaps (open_string shut_string)
open Go.Proofs.YtoldjejfninhkaaW.PrintWords Go.Proofs.Ytoldjejfninhkaa.X
set_option linter.unusedVariables false
theorem own : ownKnob Try.prog.godebug = none := by kernel_rfl
theorem laidOut : laidOutB Try.prog = true := by kernel_rfl
set_option maxRecDepth 100000 in
theorem lifted (os : Os) (started : os.Started) (H : Type) (enc : TypeId × Value → H) :
    ReturnsInHanded {} Try.checked os 3 .any (Rows.fnExactNewMeetingSpec.pre6 enc Try.prog Try.f3 Rows.fnExactNewMeetingRow.domain false) (Rows.fnExactNewMeetingSpec.post enc Try.prog Try.f3 false true false false) := by
  refine returnsInHanded_of_change_sized (C := Try.checked) own started (by kernel_rfl) Try.func3
    (ChangeSpec.witness6 (enc := enc) (C := Try.checked) false ⟨#[], #[.int .i64 0, .string ByteArray.empty], []⟩ 8 (by kernel_rfl) (by kernel_rfl) (by kernel_rfl) (by kernel_rfl)) ?_
  intro W base args ds gs before hval0 hW hcnd hsz0 _
  have hval : ∀ (j : Nat) t v, Try.f3.params[j]? = some t → args[j]? = some v → Value.okWide Try.prog W .any base t v := hval0
  have hW' := hW
  obtain ⟨p, q, hA0, hV, rfl, hfz, hnd⟩ := hW
  have hA : DataW.TrodAll enc Try.prog W 0 (fun _ => true) true Try.f3.params.toList args.toList ds p := hA0
  rw [Try.params3] at hA hval
  obtain ⟨v0, vs0, d0, ds0, p0, q0, hargs, rfl, rfl, h0, r0⟩ := trodAll_cons hA
  obtain ⟨v1, vs1, d1, ds1, p1, q1, rfl, rfl, rfl, h1, r1⟩ := trodAll_cons r0
  obtain ⟨rfl, rfl, rfl⟩ := trodAll_nil r1
  obtain rfl : args = #[v0, v1] := by cases args; simp_all
  obtain ⟨rfl, rfl⟩ := trodVars_none hV
  obtain ⟨a0, rfl, rfl, rfl, w0⟩ := open_int Try.underlying3 (hval 0 3 v0 rfl rfl) h0
  obtain ⟨a1, rfl, rfl, rfl, w1⟩ := open_string Try.underlying9 (hval 1 9 v1 rfl rfl) h1
  clear hA0 hval0 hsz0
  have hP : PureFnExactNewMeeting := Pure.FnExactNewMeeting
  have hk := hP a0 a1 w0 w1
  refine (laws_FnExactNewMeeting.calls a0 a1 true W  hk).mono fun e W' ⟨he, bel0⟩ => ?_
  have bel : Below W.heap.size W W' := bel0
  subst he
  exact ⟨_, rfl, _, _, _, [], _, [], hW', trodAll_mk1 (shut_bool Try.underlying4 _), (trodAll_cons_mk (shut_int Try.underlying3 w0) (trodAll_cons_mk (shut_string Try.underlying9 w1) trodAll_mk0)), rfl, bel.frame _, fun h => by cases h⟩
theorem over : Rows.fnExactNewMeetingRow.holds Try.pinned (OpenSpec.ofChange Rows.fnExactNewMeetingSpec) :=
  OpenClaim.holds_of_wide 3 Try.f3 rfl rfl rfl rfl rfl rfl rfl ⟨rfl, rfl, rfl, rfl, rfl⟩ rfl rfl rfl rfl rfl (by kernel_rfl) Try.func3 (by kernel_rfl)
    (of_decide_eq_true (by kernel_rfl)) (by unfold Func.isWrapper; first | (rw [if_pos (by decide +kernel)]; kernel_rfl) | (rw [if_neg (by decide +kernel)]; exact ⟨rfl, rfl⟩))
    (fun os started H enc _ => lifted os started H enc)
theorem proved : Rows.FnExactNewMeetingSaid := over
#print axioms proved
end Go.Proofs.Ytoldjejfninhkaa.fnExactNewMeeting
namespace Go.Proofs.Ytoldjejfninhkaa
theorem fnExactNewMeeting_holds : Rows.FnExactNewMeetingSaid := fnExactNewMeeting.proved
end Go.Proofs.Ytoldjejfninhkaa
