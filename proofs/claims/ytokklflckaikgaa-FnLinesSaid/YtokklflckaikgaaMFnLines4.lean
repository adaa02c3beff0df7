/- The law FnLines of the program: its proof, part 4. -/
import Derived.Test.YtokklflckaikgaaMFnLines2
import Derived.Test.YtokklflckaikgaaMFnLines3
import Derived.ProofKit
import Derived.OpenShut
import Derived.ChangeSlices
import Derived.Test.YtokklflckaikgaaRows
import Derived.WalkKit
import Derived.ShutString
import Derived.ChangeOld
import Derived.Below
import Derived.SizedLaws
set_option linter.unusedVariables false
set_option linter.unusedSimpArgs false
namespace Go.Proofs.Ytokklflckaikgaa.X
open Go.RowKit Go.Proofs.YtokklflckaikgaaW.PrintWords Go.Proofs.YtokklflckaikgaaW.PrintLast Go.Proofs.YtokklflckaikgaaW.PrintMore
section
attribute [local go_sem] max2_int min2_int max_two min_two max_three min_three max_four min_four
mutual
def laws_FnLines.j0 : Nat → List Int → List ByteArray → Int → List ByteArray → Int → Bool → Bool → Option (Bool)
  | 0, _, _, _, _, _, _, _ => none
  | k + 1, x1, x5, x6, x7, x8, x9, x72 => if x72 = true then (some false) else (if x9 = true then (laws_FnLines.l0 k x1 x5 x6 x7 x8 (⟨#[]⟩ : ByteArray) x5 (x5.length : Int) 0) else (some (x8 == 0)))
def laws_FnLines.l0 : Nat → List Int → List ByteArray → Int → List ByteArray → Int → ByteArray → List ByteArray → Int → Int → Option (Bool)
  | 0, _, _, _, _, _, _, _, _, _ => none
  | k + 1, x1, x5, x6, x7, x8, x13, x77, x78, x79 => if x79 < x78 then (if 0 ≤ x79 then (if x79 < (x77.length : Int) then (if x79 > 0 then (if x13.size + 1 ≤ 9223372036854775807 then (if (x13 ++ (⟨#[32]⟩ : ByteArray)).size + (rdOf ByteArray.empty x77 x79).size ≤ 9223372036854775807 then (laws_FnLines.l0 k x1 x5 x6 x7 x8 ((x13 ++ (⟨#[32]⟩ : ByteArray)) ++ (rdOf ByteArray.empty x77 x79)) x77 x78 (wrap64 (x79 + 1))) else (none)) else (none)) else (if x13.size + (rdOf ByteArray.empty x77 x79).size ≤ 9223372036854775807 then (laws_FnLines.l0 k x1 x5 x6 x7 x8 (x13 ++ (rdOf ByteArray.empty x77 x79)) x77 x78 (wrap64 (x79 + 1))) else (none))) else (none)) else (none)) else (laws_FnLines.l1 k x1 x5 x6 x7 x8 x13 (⟨#[]⟩ : ByteArray) x7 (x7.length : Int) 0)
def laws_FnLines.l1 : Nat → List Int → List ByteArray → Int → List ByteArray → Int → ByteArray → ByteArray → List ByteArray → Int → Int → Option (Bool)
  | 0, _, _, _, _, _, _, _, _, _, _ => none
  | k + 1, x1, x5, x6, x7, x8, x13, x16, x92, x93, x94 => if x94 < x93 then (if 0 ≤ x94 then (if x94 < (x92.length : Int) then (if x94 > 0 then (if x16.size + 1 ≤ 9223372036854775807 then (if (x16 ++ (⟨#[32]⟩ : ByteArray)).size + (rdOf ByteArray.empty x92 x94).size ≤ 9223372036854775807 then (if ((rdOf ByteArray.empty x92 x94).size : Int) > x6 then (some false) else (laws_FnLines.l1 k x1 x5 x6 x7 x8 x13 ((x16 ++ (⟨#[32]⟩ : ByteArray)) ++ (rdOf ByteArray.empty x92 x94)) x92 x93 (wrap64 (x94 + 1)))) else (none)) else (none)) else (if x16.size + (rdOf ByteArray.empty x92 x94).size ≤ 9223372036854775807 then (if ((rdOf ByteArray.empty x92 x94).size : Int) > x6 then (some false) else (laws_FnLines.l1 k x1 x5 x6 x7 x8 x13 (x16 ++ (rdOf ByteArray.empty x92 x94)) x92 x93 (wrap64 (x94 + 1)))) else (none))) else (none)) else (none)) else ((impl_CostOfLines.f k x7 x6).bind fun bt118 => ((impl_GreedyLines.f k x5 x6).bind fun bt120 => ((impl_CostOfLines.f k bt120.1 x6).bind fun bt124 => (if x16.toList = x13.toList then (if bt118.2 = true then (if bt120.2 = true then (if bt124.2 = true then (if bt118.1 = x8 then (laws_FnLines.j3 k x1 x5 x6 x8 bt120.1 (decide (bt124.1 < x8))) else (laws_FnLines.j3 k x1 x5 x6 x8 bt120.1 true)) else (laws_FnLines.j3 k x1 x5 x6 x8 bt120.1 true)) else (laws_FnLines.j3 k x1 x5 x6 x8 bt120.1 true)) else (laws_FnLines.j3 k x1 x5 x6 x8 bt120.1 true)) else (laws_FnLines.j3 k x1 x5 x6 x8 bt120.1 true)))))
def laws_FnLines.j3 : Nat → List Int → List ByteArray → Int → Int → List ByteArray → Bool → Option (Bool)
  | 0, _, _, _, _, _, _ => none
  | k + 1, x1, x5, x6, x8, x21, x153 => if x153 = true then (some false) else ((spec_DrawBreakAt.f k x1).bind fun bt126 => ((impl_BreakAt.f x5 bt126.2.1 x6).bind fun bt133 => ((spec_BreakAt.f k x5 bt126.2.1 x6).bind fun bt137 => (if (bt133.2 != bt137.2) = true then (some false) else ((laws_sameTexts.f k bt133.1 bt137.1).bind fun t141 => (if t141 = true then ((impl_CostOfLines.f k bt133.1 x6).bind fun bt142 => (if bt133.2 = true then (if bt142.2 = true then (if bt142.1 ≥ x8 then (some (decide ((bt133.1.length : Int) ≥ (x21.length : Int)))) else (some false)) else (some false)) else (some true))) else (some false)))))))
end
def laws_FnLines.f (k : Nat) (l0 : List Int) (l1 : List Int) : Option (Bool) := if (wrap64 ((l0.length : Int) + (l1.length : Int))) > 1048576 then (some true) else ((spec_DrawBestLines.f k l0).bind fun bt101 => ((impl_BestLines.f bt101.1 bt101.2).bind fun bt105 => ((spec_BestLines.f bt101.1 bt101.2).bind fun bt110 => (if (bt105.2.2 != bt110.2.2) = true then (laws_FnLines.j0 k l1 bt101.1 bt101.2 bt105.1 bt105.2.1 bt105.2.2 true) else (if bt105.2.1 = bt110.2.1 then ((laws_sameTexts.f k bt105.1 bt110.1).bind fun t115 => (laws_FnLines.j0 k l1 bt101.1 bt101.2 bt105.1 bt105.2.1 bt105.2.2 (!t115))) else (laws_FnLines.j0 k l1 bt101.1 bt101.2 bt105.1 bt105.2.1 bt105.2.2 true))))))
set_option maxHeartbeats 8000000 in
set_option maxRecDepth 100000 in
theorem laws_FnLines.calls (k : Nat) (A0 : Option Addr) (c0 : Nat) (l0 : List Int) (A1 : Option Addr) (c1 : Nat) (l1 : List Int) (r : Bool) (w : World) (hr0 : Kd.C (Kd.int .u8) w A0 l0.length l0) (hc0 : l0.length ≤ c0) (hr1 : Kd.C (Kd.int .u8) w A1 l1.length l1) (hc1 : l1.length ≤ c1) (h : laws_FnLines.f k l0 l1 = some r) :
    Calls Try.prog 3 #[.slice A0 l0.length c0, .slice A1 l1.length c1] w fun e w' => e = .returned (.bool r) ∧ Below w.heap.size w w' := by
  have HR0 := mz hr0
  have HC0 := mz hc0
  clear hr0 hc0
  have HR1 := mz hr1
  have HC1 := mz hc1
  clear hr1 hc1
  have HB := mz (Below.refl w.heap.size w)
  have H : (if (wrap64 ((l0.length : Int) + (l1.length : Int))) > 1048576 then (some true) else ((spec_DrawBestLines.f k l0).bind fun bt101 => ((impl_BestLines.f bt101.1 bt101.2).bind fun bt105 => ((spec_BestLines.f bt101.1 bt101.2).bind fun bt110 => (if (bt105.2.2 != bt110.2.2) = true then (laws_FnLines.j0 k l1 bt101.1 bt101.2 bt105.1 bt105.2.1 bt105.2.2 true) else (if bt105.2.1 = bt110.2.1 then ((laws_sameTexts.f k bt105.1 bt110.1).bind fun t115 => (laws_FnLines.j0 k l1 bt101.1 bt101.2 bt105.1 bt105.2.1 bt105.2.2 (!t115))) else (laws_FnLines.j0 k l1 bt101.1 bt101.2 bt105.1 bt105.2.1 bt105.2.2 true))))))) = some r := h
  clear h
  by_cases c3 : (wrap64 ((l0.length : Int) + (l1.length : Int))) > 1048576
  · rw [if_pos c3] at H
    have c3b0 : decide (1048576 < (wrap64 ((l0.length : Int) + (l1.length : Int)))) = true := decide_eq_true c3
    clear c3
    obtain rfl := Option.some.inj H
    go_enter Try.func3, Try.ntmps3
    go_wp2
    go_ret
    exact ⟨by first | rfl | (simp [errW_none, errW_some] <;> rfl) | (simp [*, errW_none, errW_some] <;> rfl), by repeat (first | (with_reducible first | exact HB.out | apply below_alloc | apply pw_below_drewN | apply below_drew1) | exact HB.out)⟩
  · rw [if_neg c3] at H
    have c3b0 : decide (1048576 < (wrap64 ((l0.length : Int) + (l1.length : Int)))) = false := decide_eq_false c3
    clear c3
    replace H := be0_ H
    obtain ⟨⟨t101, t102⟩, A40, H⟩ := H
    replace H : ((impl_BestLines.f t101 t102).bind fun bt105 => ((spec_BestLines.f t101 t102).bind fun bt110 => (if (bt105.2.2 != bt110.2.2) = true then (laws_FnLines.j0 k l1 t101 t102 bt105.1 bt105.2.1 bt105.2.2 true) else (if bt105.2.1 = bt110.2.1 then ((laws_sameTexts.f k bt105.1 bt110.1).bind fun t115 => (laws_FnLines.j0 k l1 t101 t102 bt105.1 bt105.2.1 bt105.2.2 (!t115))) else (laws_FnLines.j0 k l1 t101 t102 bt105.1 bt105.2.1 bt105.2.2 true))))) = some r := H
    have A4 := mz A40
    clear A40
    replace H := be0_ H
    obtain ⟨⟨t105, t106, t107⟩, A50, H⟩ := H
    replace H : ((spec_BestLines.f t101 t102).bind fun bt110 => (if (t107 != bt110.2.2) = true then (laws_FnLines.j0 k l1 t101 t102 t105 t106 t107 true) else (if t106 = bt110.2.1 then ((laws_sameTexts.f k t105 bt110.1).bind fun t115 => (laws_FnLines.j0 k l1 t101 t102 t105 t106 t107 (!t115))) else (laws_FnLines.j0 k l1 t101 t102 t105 t106 t107 true)))) = some r := H
    have A5 := mz A50
    clear A50
    replace H := be0_ H
    obtain ⟨⟨t110, t111, t112⟩, A60, H⟩ := H
    replace H : (if (t107 != t112) = true then (laws_FnLines.j0 k l1 t101 t102 t105 t106 t107 true) else (if t106 = t111 then ((laws_sameTexts.f k t105 t110).bind fun t115 => (laws_FnLines.j0 k l1 t101 t102 t105 t106 t107 (!t115))) else (laws_FnLines.j0 k l1 t101 t102 t105 t106 t107 true))) = some r := H
    have A6 := mz A60
    clear A60
    have HC7 := mz H
    clear H
    go_enter Try.func3, Try.ntmps3
    go_upto_region 6 with (first | ((with_reducible refine gate_callee (f := 5) rfl ?_); refine goesL_ (some 42) rfl rfl Try.func5 (by kernel_rfl) rfl #[.slice A0 l0.length c0] rfl (by (try simp only [List.map_toArray, List.map_cons, List.map_nil]); first | done | rfl | (simp only [List.length_drop, List.length_take]; rfl)) ?_; (with_reducible refine (spec_DrawBestLines.calls k _ _ l0 t101 t102 _ ?side1 ?side2 A4.out).mono ?_); (case side1 => repeat (first | exact HR0.out | (with_reducible refine Kd.C_alloc ?_ _) | (with_reducible refine Kd.C_drewN ?_ _) | (with_reducible refine Kd.C_drew ?_))); (case side2 => exact HC0.out); rintro e w8 ⟨v103, rfl, ho0, hb⟩; refine ⟨_, rfl, ?_⟩; have n0_ := mz (Kd.R_lower ho0 (below_size (by repeat (first | (with_reducible first | exact HB.out | apply below_alloc | apply pw_below_drewN | apply below_drew1) | exact HB.out)))); have n1_ := mz (below_step (by repeat (first | (with_reducible first | exact HB.out | apply below_alloc | apply pw_below_drewN | apply below_drew1) | exact HB.out)) hb); clear HB; have HO104 := n0_; have HB := n1_; clear n0_ n1_; (try clear hb); (try clear hb2); (try clear hk); (try clear hi); (try clear ho0); obtain ⟨Ao9, co9, eo9⟩ := Kd.R_slice HO104.out; subst eo9) | ((with_reducible refine gate_callee (f := 6) rfl ?_); refine goesL_ (some 48) rfl rfl Try.func6 (by kernel_rfl) rfl #[.slice Ao9 t101.length co9, .int .i64 t102] rfl (by (try simp only [List.map_toArray, List.map_cons, List.map_nil]); first | done | rfl | (simp only [List.length_drop, List.length_take]; rfl)) ?_; (with_reducible refine (impl_BestLines.calls _ _ t101 t102 t105 t106 t107 _ ?side1 ?side2 A5.out).mono ?_); (case side1 => repeat (first | exact (Kd.R_reads' HO104.out).2.2 | (with_reducible refine Kd.C_alloc ?_ _) | (with_reducible refine Kd.C_drewN ?_ _) | (with_reducible refine Kd.C_drew ?_))); (case side2 => exact (Kd.R_reads' HO104.out).2.1); rintro e w10 ⟨v108, rfl, ho0, hb⟩; refine ⟨_, rfl, ?_⟩; have n0_ := mz (Kd.R_elder' (by (with_reducible repeat (first | apply Kd.R_alloc | apply Kd.R_drewN | apply Kd.R_drew)); exact HO104.out) (Kd.R_base ho0) hb); have n1_ := mz (Kd.R_lower (Kd.R_new' ho0 (Kd.R_lt (by (with_reducible repeat (first | apply Kd.R_alloc | apply Kd.R_drewN | apply Kd.R_drew)); exact HO104.out))) (below_size (by repeat (first | (with_reducible first | exact HB.out | apply below_alloc | apply pw_below_drewN | apply below_drew1) | exact HB.out)))); have n2_ := mz (below_step (by repeat (first | (with_reducible first | exact HB.out | apply below_alloc | apply pw_below_drewN | apply below_drew1) | exact HB.out)) hb); clear HO104; clear HB; have HO104 := n0_; have HO109 := n1_; have HB := n2_; clear n0_ n1_ n2_; (try clear hb); (try clear hb2); (try clear hk); (try clear hi); (try clear ho0)) | ((with_reducible refine gate_callee (f := 7) rfl ?_); refine goesL_ (some 55) rfl rfl Try.func7 (by kernel_rfl) rfl #[.slice Ao9 t101.length co9, .int .i64 t102] rfl (by (try simp only [List.map_toArray, List.map_cons, List.map_nil]); first | done | rfl | (simp only [List.length_drop, List.length_take]; rfl)) ?_; (with_reducible refine (spec_BestLines.calls _ _ t101 t102 t110 t111 t112 _ ?side1 ?side2 A6.out).mono ?_); (case side1 => repeat (first | exact (Kd.R_reads' HO104.out).2.2 | (with_reducible refine Kd.C_alloc ?_ _) | (with_reducible refine Kd.C_drewN ?_ _) | (with_reducible refine Kd.C_drew ?_))); (case side2 => exact (Kd.R_reads' HO104.out).2.1); rintro e w11 ⟨v113, rfl, ho0, hb⟩; refine ⟨_, rfl, ?_⟩; have n0_ := mz (Kd.R_elder' (by (with_reducible repeat (first | apply Kd.R_alloc | apply Kd.R_drewN | apply Kd.R_drew)); exact HO104.out) (Kd.R_base ho0) hb); have n1_ := mz (Kd.R_elder' (by (with_reducible repeat (first | apply Kd.R_alloc | apply Kd.R_drewN | apply Kd.R_drew)); exact HO109.out) (Kd.R_base ho0) hb); have n2_ := mz (Kd.R_lower (Kd.R_new' (Kd.R_new' ho0 (Kd.R_lt (by (with_reducible repeat (first | apply Kd.R_alloc | apply Kd.R_drewN | apply Kd.R_drew)); exact HO104.out))) (Kd.R_lt (by (with_reducible repeat (first | apply Kd.R_alloc | apply Kd.R_drewN | apply Kd.R_drew)); exact HO109.out))) (below_size (by repeat (first | (with_reducible first | exact HB.out | apply below_alloc | apply pw_below_drewN | apply below_drew1) | exact HB.out)))); have n3_ := mz (below_step (by repeat (first | (with_reducible first | exact HB.out | apply below_alloc | apply pw_below_drewN | apply below_drew1) | exact HB.out)) hb); clear HO104; clear HO109; clear HB; have HO104 := n0_; have HO109 := n1_; have HO114 := n2_; have HB := n3_; clear n0_ n1_ n2_ n3_; (try clear hb); (try clear hb2); (try clear hk); (try clear hi); (try clear ho0)))
    (try simp only [Act.put, List.setIfInBounds_toArray, List.set_cons_zero, List.set_cons_succ])
    go_cut [72] (fun v72 wc => ∃ (kq : Nat) (x72_6 : Bool), v72 = .bool x72_6 ∧ Aside0 (laws_FnLines.j0 kq l1 t101 t102 t105 t106 t107 x72_6 = some r) ∧ Aside0 (kq ≤ k) ∧ Aside0 (Kd.R Kd.string 9 wc w.heap.size (fun k_ => some k_ ≠ (v108 : Value).ownBlock) (.slice Ao9 t101.length co9) t101) ∧ Aside0 (Kd.R Kd.string 9 wc w.heap.size (fun k_ => some k_ ≠ ((.slice Ao9 t101.length co9) : Value).ownBlock) v108 t105) ∧ Aside0 (Below w.heap.size w wc))
    case first =>
      have H := HC7.out
      clear HC7
      by_cases c12 : (t107 != t112) = true
      · rw [if_pos c12] at H
        have c12b0 : (t107 != t112) = true := c12
        (try (have c12b1 : decide (t107 = t112) = false := by simpa using c12))
        (try (have c12b2 : (t107 == t112) = false := by simpa using c12))
        (try (have c12b3 : ¬ (t107 = t112) := by simpa using c12))
        clear c12
        (first | rw [c12b0] | (simp only [i64_w, i32_w]; rw [c12b0]) | skip)
        have H' := mz H
        clear H
        go_wp2
        go_meet
        case rel => exact ⟨_, (true), (by first | rfl | (simp; done) | (simp [*]; done)), H', ⟨by first | omega | exact Nat.le_refl _⟩, ⟨by (with_reducible repeat (first | apply Kd.R_alloc | apply Kd.R_drewN | apply Kd.R_drew)); exact Kd.R_mono HO104.out (fun _ hk => hk.1.2)⟩, ⟨by (with_reducible repeat (first | apply Kd.R_alloc | apply Kd.R_drewN | apply Kd.R_drew)); exact Kd.R_mono HO109.out (fun _ hk => hk.1.2)⟩, ⟨by repeat (first | (with_reducible first | exact HB.out | apply below_alloc | apply pw_below_drewN | apply below_drew1) | exact HB.out)⟩⟩
      · rw [if_neg c12] at H
        have c12b0 : (t107 != t112) = false := by simpa using c12
        (try (have c12b1 : decide (t107 = t112) = true := by simpa using c12))
        (try (have c12b2 : (t107 == t112) = true := by simpa using c12))
        clear c12
        (first | rw [c12b0] | (simp only [i64_w, i32_w]; rw [c12b0]) | skip)
        by_cases c13 : t106 = t111
        · rw [if_pos c13] at H
          have c13b0 : (t106 == t111) = true := beq_iff_eq.mpr c13
          have c13b1 : (t106 != t111) = false := bne_eq_false_iff_eq.mpr c13
          clear c13
          replace H := be0_ H
          obtain ⟨t115, A140, H⟩ := H
          replace H : (laws_FnLines.j0 k l1 t101 t102 t105 t106 t107 (!t115)) = some r := H
          have A14 := mz A140
          clear A140
          have H' := mz H
          clear H
          obtain ⟨Ao15, co15, eo15⟩ := Kd.R_slice HO109.out
          subst eo15
          obtain ⟨Ao16, co16, eo16⟩ := Kd.R_slice HO114.out
          subst eo16
          go_wp2_with (first | (go_at_call 8; (with_reducible refine (laws_sameTexts.calls k _ _ t105 _ _ t110 t115 _ ?side1 ?side2 ?side3 ?side4 A14.out).mono ?_); (case side1 => repeat (first | exact (Kd.R_reads' HO109.out).2.2 | (with_reducible refine Kd.C_alloc ?_ _) | (with_reducible refine Kd.C_drewN ?_ _) | (with_reducible refine Kd.C_drew ?_))); (case side2 => exact (Kd.R_reads' HO109.out).2.1); (case side3 => repeat (first | exact (Kd.R_reads' HO114.out).2.2 | (with_reducible refine Kd.C_alloc ?_ _) | (with_reducible refine Kd.C_drewN ?_ _) | (with_reducible refine Kd.C_drew ?_))); (case side4 => exact (Kd.R_reads' HO114.out).2.1); rintro e w' ⟨rfl, ⟨nd, rfl⟩⟩))
          go_meet
          case rel => exact ⟨_, (!t115), (by first | rfl | (simp; done) | (simp [*]; done)), H', ⟨by first | omega | exact Nat.le_refl _⟩, ⟨by (with_reducible repeat (first | apply Kd.R_alloc | apply Kd.R_drewN | apply Kd.R_drew)); exact Kd.R_mono HO104.out (fun _ hk => hk.1.2)⟩, ⟨by (with_reducible repeat (first | apply Kd.R_alloc | apply Kd.R_drewN | apply Kd.R_drew)); exact Kd.R_mono HO109.out (fun _ hk => hk.1.2)⟩, ⟨by repeat (first | (with_reducible first | exact HB.out | apply below_alloc | apply pw_below_drewN | apply below_drew1) | exact HB.out)⟩⟩
        · rw [if_neg c13] at H
          have c13b0 : (t106 == t111) = false := beq_eq_false_iff_ne.mpr c13
          have c13b1 : (t106 != t111) = true := bne_iff_ne.mpr c13
          have H' := mz H
          clear H
          go_wp2
          go_meet
          case rel => exact ⟨_, (true), (by first | rfl | (simp; done) | (simp [*]; done)), H', ⟨by first | omega | exact Nat.le_refl _⟩, ⟨by (with_reducible repeat (first | apply Kd.R_alloc | apply Kd.R_drewN | apply Kd.R_drew)); exact Kd.R_mono HO104.out (fun _ hk => hk.1.2)⟩, ⟨by (with_reducible repeat (first | apply Kd.R_alloc | apply Kd.R_drewN | apply Kd.R_drew)); exact Kd.R_mono HO109.out (fun _ hk => hk.1.2)⟩, ⟨by repeat (first | (with_reducible first | exact HB.out | apply below_alloc | apply pw_below_drewN | apply below_drew1) | exact HB.out)⟩⟩
    case rest =>
      clear HC7
      try clear c1
      try clear p2
      try clear c3
      try clear c3b0
      try clear c5
      try clear c6
      try clear p6
      try clear c7
      try clear c12
      try clear c12b0
      try clear c12b1
      try clear c12b2
      try clear c13
      try clear c13b0
      try clear c13b1
      obtain ⟨kq, x72_6, rfl, HA, HJ6, HO_5, HO_7, HB⟩ := hcut
      cases kq with
      | zero => exact absurd HA.out (by simp [laws_FnLines.j0])
      | succ kj6 =>
        have H := HA.out
        clear HA
        simp only [laws_FnLines.j0] at H
        by_cases c17 : x72_6 = true
        · subst c17
          have H1 : (some false) = some r := by rw [if_pos rfl] at H; exact H
          clear H
          have H := H1
          clear H1
          obtain rfl := Option.some.inj H
          go_wp2
          go_ret
          exact ⟨by first | rfl | (simp [errW_none, errW_some] <;> rfl) | (simp [*, errW_none, errW_some] <;> rfl), by repeat (first | (with_reducible first | exact HB.out | apply below_alloc | apply pw_below_drewN | apply below_drew1) | exact HB.out)⟩
        · replace c17 := Bool.eq_false_iff.mpr c17
          subst c17
          have H1 : (if t107 = true then (laws_FnLines.l0 kj6 l1 t101 t102 t105 t106 (⟨#[]⟩ : ByteArray) t101 (t101.length : Int) 0) else (some (t106 == 0))) = some r := by rw [if_neg (show ¬ (false = true) by decide)] at H; exact H
          clear H
          have H := H1
          clear H1
          by_cases c18 : t107 = true
          · subst c18
            have H1 : (laws_FnLines.l0 kj6 l1 t101 t102 t105 t106 (⟨#[]⟩ : ByteArray) t101 (t101.length : Int) 0) = some r := by rw [if_pos rfl] at H; exact H
            clear H
            have H := H1
            clear H1
            have H' := mz H
            clear H
            go_wp2
            go_loopg [13, 79] kj6 (fun kq v13 v79 w' => ∃ (x13_2 : ByteArray) (x79_2 : Int), v13 = .string x13_2 ∧ v79 = .int .i64 x79_2 ∧ Aside0 (laws_FnLines.l0 kq l1 t101 t102 t105 t106 x13_2 t101 (t101.length : Int) x79_2 = some r) ∧ Aside0 (kq ≤ kj6) ∧ Aside0 (Kd.R Kd.string 9 w' w.heap.size (fun k_ => some k_ ≠ (v108 : Value).ownBlock) (.slice Ao9 t101.length co9) t101) ∧ Aside0 (Kd.R Kd.string 9 w' w.heap.size (fun k_ => some k_ ≠ ((.slice Ao9 t101.length co9) : Value).ownBlock ∧ some k_ ≠ ((.slice Ao9 t101.length co9) : Value).ownBlock) v108 t105) ∧ Aside0 (Kd.R Kd.string 9 w' w.heap.size (fun k_ => some k_ ≠ (v108 : Value).ownBlock) (.slice Ao9 t101.length co9) t101) ∧ Aside0 (Below w.heap.size w w'))
            case atStart => exact ⟨((⟨#[]⟩ : ByteArray)), (0), (by first | rfl | (simp; done) | (simp [*]; done)), (by first | rfl | (simp; done) | (simp [*]; done)), H', ⟨Nat.le_refl _⟩, ⟨by (with_reducible repeat (first | apply Kd.R_alloc | apply Kd.R_drewN | apply Kd.R_drew)); exact HO_5.out⟩, ⟨by (with_reducible repeat (first | apply Kd.R_alloc | apply Kd.R_drewN | apply Kd.R_drew)); exact Kd.R_mono HO_7.out (fun _ hk => ⟨hk, hk⟩)⟩, ⟨by (with_reducible repeat (first | apply Kd.R_alloc | apply Kd.R_drewN | apply Kd.R_drew)); exact HO_5.out⟩, ⟨by repeat (first | (with_reducible first | exact HB.out | apply below_alloc | apply pw_below_drewN | apply below_drew1) | exact HB.out)⟩⟩
            case round =>
              clear H'
              try clear c1
              try clear p2
              try clear c3
              try clear c3b0
              try clear c5
              try clear c6
              try clear p6
              try clear c7
              try clear c12
              try clear c12b0
              try clear c12b1
              try clear c12b2
              try clear c13
              try clear c13b0
              try clear c13b1
              try clear c17
              try clear c18
              try clear p2
              try clear p6
              obtain ⟨x13_2, x79_2, rfl, rfl, HA, HK2, HO_5, HO_7, HO_77, HB⟩ := hrel
              cases gk with
              | zero => exact absurd HA.out (by simp [laws_FnLines.l0])
              | succ k2 =>
                have H := HA.out
                clear HA
                simp only [laws_FnLines.l0] at H
                by_cases c19 : x79_2 < (t101.length : Int)
                · rw [if_pos c19] at H
                  have c19b0 : decide (x79_2 < (t101.length : Int)) = true := decide_eq_true c19
                  clear c19
                  by_cases c20 : 0 ≤ x79_2
                  · rw [if_pos c20] at H
                    have c20b0 : decide (0 ≤ x79_2) = true := decide_eq_true c20
                    clear c20
                    by_cases c21 : x79_2 < (t101.length : Int)
                    · rw [if_pos c21] at H
                      have c21b0 : decide (x79_2 < (t101.length : Int)) = true := decide_eq_true c21
                      clear c21
                      by_cases c22 : x79_2 > 0
                      · rw [if_pos c22] at H
                        have c22b0 : decide (0 < x79_2) = true := decide_eq_true c22
                        clear c22
                        by_cases c23 : x13_2.size + 1 ≤ 9223372036854775807
                        · rw [if_pos c23] at H
                          have c23b0 := eq_true c23
                          have c23b1 : decide (x13_2.size + 1 ≤ 9223372036854775807) = true := decide_eq_true c23
                          try have c23b2 : (9223372036854775807 < x13_2.size + 1) = False := eq_false (Nat.not_lt.2 c23)
                          by_cases c24 : (x13_2 ++ (⟨#[32]⟩ : ByteArray)).size + (rdOf ByteArray.empty t101 x79_2).size ≤ 9223372036854775807
                          · rw [if_pos c24] at H
                            have c24b0 := eq_true c24
                            have c24b1 : decide ((x13_2 ++ (⟨#[32]⟩ : ByteArray)).size + (rdOf ByteArray.empty t101 x79_2).size ≤ 9223372036854775807) = true := decide_eq_true c24
                            try have c24b2 : (9223372036854775807 < (x13_2 ++ (⟨#[32]⟩ : ByteArray)).size + (rdOf ByteArray.empty t101 x79_2).size) = False := eq_false (Nat.not_lt.2 c24)
                            try have c24b3 := c24b2
                            try simp only [ByteArray.size_append, (show ((⟨#[32]⟩ : ByteArray)).size = 1 from rfl)] at c24b3
                            have H' := mz H
                            clear H
                            have p116 : 0 ≤ (x79_2 : Int) := of_decide_eq_true (by first | (with_reducible assumption) | assumption)
                            have q116 : x79_2 < (t101.length : Int) := of_decide_eq_true (by first | (with_reducible assumption) | assumption)
                            obtain ⟨ad116, e116, hx116_0⟩ := Kd.at_string (Kd.R_reads' HO_77.out).2.2 x79_2 p116 q116
                            cases e116
                            replace p116 := eq_true p116
                            replace q116 := eq_true q116
                            go_wp2
                            go_roundg k2
                            case measure => have := HJ6.out; have := HK2.out; omega
                            case rel => exact ⟨((x13_2 ++ (⟨#[32]⟩ : ByteArray)) ++ (rdOf ByteArray.empty t101 x79_2)), (wrap64 (x79_2 + 1)), (by first | rfl | (simp; done) | (simp [*]; done)), (by first | rfl | (simp; done) | (simp [*]; done)), H', ⟨by have := HJ6.out; have := HK2.out; omega⟩, ⟨by (with_reducible repeat (first | apply Kd.R_alloc | apply Kd.R_drewN | apply Kd.R_drew)); exact HO_5.out⟩, ⟨by (with_reducible repeat (first | apply Kd.R_alloc | apply Kd.R_drewN | apply Kd.R_drew)); exact HO_7.out⟩, ⟨by (with_reducible repeat (first | apply Kd.R_alloc | apply Kd.R_drewN | apply Kd.R_drew)); exact HO_77.out⟩, ⟨by repeat (first | (with_reducible first | exact HB.out | apply below_alloc | apply pw_below_drewN | apply below_drew1) | exact HB.out)⟩⟩
                          · rw [if_neg c24] at H
                            exact absurd H (by simp)
                        · rw [if_neg c23] at H
                          exact absurd H (by simp)
                      · rw [if_neg c22] at H
                        have c22b0 : decide (0 < x79_2) = false := decide_eq_false c22
                        clear c22
                        by_cases c25 : x13_2.size + (rdOf ByteArray.empty t101 x79_2).size ≤ 9223372036854775807
                        · rw [if_pos c25] at H
                          have c25b0 := eq_true c25
                          have c25b1 : decide (x13_2.size + (rdOf ByteArray.empty t101 x79_2).size ≤ 9223372036854775807) = true := decide_eq_true c25
                          try have c25b2 : (9223372036854775807 < x13_2.size + (rdOf ByteArray.empty t101 x79_2).size) = False := eq_false (Nat.not_lt.2 c25)
                          have H' := mz H
                          clear H
                          have p116 : 0 ≤ (x79_2 : Int) := of_decide_eq_true (by first | (with_reducible assumption) | assumption)
                          have q116 : x79_2 < (t101.length : Int) := of_decide_eq_true (by first | (with_reducible assumption) | assumption)
                          obtain ⟨ad116, e116, hx116_0⟩ := Kd.at_string (Kd.R_reads' HO_77.out).2.2 x79_2 p116 q116
                          cases e116
                          replace p116 := eq_true p116
                          replace q116 := eq_true q116
                          go_wp2
                          go_roundg k2
                          case measure => have := HJ6.out; have := HK2.out; omega
                          case rel => exact ⟨(x13_2 ++ (rdOf ByteArray.empty t101 x79_2)), (wrap64 (x79_2 + 1)), (by first | rfl | (simp; done) | (simp [*]; done)), (by first | rfl | (simp; done) | (simp [*]; done)), H', ⟨by have := HJ6.out; have := HK2.out; omega⟩, ⟨by (with_reducible repeat (first | apply Kd.R_alloc | apply Kd.R_drewN | apply Kd.R_drew)); exact HO_5.out⟩, ⟨by (with_reducible repeat (first | apply Kd.R_alloc | apply Kd.R_drewN | apply Kd.R_drew)); exact HO_7.out⟩, ⟨by (with_reducible repeat (first | apply Kd.R_alloc | apply Kd.R_drewN | apply Kd.R_drew)); exact HO_77.out⟩, ⟨by repeat (first | (with_reducible first | exact HB.out | apply below_alloc | apply pw_below_drewN | apply below_drew1) | exact HB.out)⟩⟩
                        · rw [if_neg c25] at H
                          exact absurd H (by simp)
                    · rw [if_neg c21] at H
                      exact absurd H (by simp)
                  · rw [if_neg c20] at H
                    exact absurd H (by simp)
                · rw [if_neg c19] at H
                  have c19b0 : decide (x79_2 < (t101.length : Int)) = false := decide_eq_false c19
                  clear c19
                  have H' := mz H
                  clear H
                  obtain ⟨Ao26, co26, eo26⟩ := Kd.R_slice HO_7.out
                  subst eo26
                  go_wp2
                  go_loopg [16, 94] k2 (fun kq v16 v94 w' => ∃ (x16_3 : ByteArray) (x94_3 : Int), v16 = .string x16_3 ∧ v94 = .int .i64 x94_3 ∧ Aside0 (laws_FnLines.l1 kq l1 t101 t102 t105 t106 x13_2 x16_3 t105 (t105.length : Int) x94_3 = some r) ∧ Aside0 (kq ≤ k2) ∧ Aside0 (Kd.R Kd.string 9 w' w.heap.size (fun k_ => some k_ ≠ ((.slice Ao26 t105.length co26) : Value).ownBlock ∧ some k_ ≠ ((.slice Ao26 t105.length co26) : Value).ownBlock) (.slice Ao9 t101.length co9) t101) ∧ Aside0 (Kd.R Kd.string 9 w' w.heap.size (fun k_ => some k_ ≠ ((.slice Ao9 t101.length co9) : Value).ownBlock) (.slice Ao26 t105.length co26) t105) ∧ Aside0 (Kd.R Kd.string 9 w' w.heap.size (fun k_ => some k_ ≠ ((.slice Ao9 t101.length co9) : Value).ownBlock) (.slice Ao26 t105.length co26) t105) ∧ Aside0 (Below w.heap.size w w'))
                  case atStart => exact ⟨((⟨#[]⟩ : ByteArray)), (0), (by first | rfl | (simp; done) | (simp [*]; done)), (by first | rfl | (simp; done) | (simp [*]; done)), H', ⟨Nat.le_refl _⟩, ⟨by (with_reducible repeat (first | apply Kd.R_alloc | apply Kd.R_drewN | apply Kd.R_drew)); exact Kd.R_mono HO_5.out (fun _ hk => ⟨hk, hk⟩)⟩, ⟨by (with_reducible repeat (first | apply Kd.R_alloc | apply Kd.R_drewN | apply Kd.R_drew)); exact Kd.R_mono HO_7.out (fun _ hk => hk.1)⟩, ⟨by (with_reducible repeat (first | apply Kd.R_alloc | apply Kd.R_drewN | apply Kd.R_drew)); exact Kd.R_mono HO_7.out (fun _ hk => hk.1)⟩, ⟨by repeat (first | (with_reducible first | exact HB.out | apply below_alloc | apply pw_below_drewN | apply below_drew1) | exact HB.out)⟩⟩
                  case round =>
                    clear H'
                    try clear c1
                    try clear p1
                    try clear q1
                    try clear hx1
                    try clear c2
                    try clear p2
                    try clear c3
                    try clear c3b0
                    try clear c5
                    try clear c6
                    try clear p6
                    try clear c7
                    try clear p11
                    try clear q11
                    try clear hx11
                    try clear c12
                    try clear c12b0
                    try clear c12b1
                    try clear c12b2
                    try clear c13
                    try clear c13b0
                    try clear c13b1
                    try clear c17
                    try clear c18
                    try clear c19
                    try clear c19b0
                    try clear c20
                    try clear c20b0
                    try clear c21
                    try clear c21b0
                    try clear c22
                    try clear c22b0
                    try clear c23
                    try clear c23b0
                    try clear c23b1
                    try clear c23b2
                    try clear c24
                    try clear c24b0
                    try clear c24b1
                    try clear c24b2
                    try clear c25
                    try clear c25b0
                    try clear c25b1
                    try clear c25b2
                    try clear hx116_0
                    try clear p116
                    try clear p2
                    try clear p6
                    try clear q116
                    obtain ⟨x16_3, x94_3, rfl, rfl, HA, HK3, HO_5, HO_7, HO_92, HB⟩ := hrel
                    cases gk with
                    | zero => exact absurd HA.out (by simp [laws_FnLines.l1])
                    | succ k3 =>
                      have H := HA.out
                      clear HA
                      simp only [laws_FnLines.l1] at H
                      by_cases c27 : x94_3 < (t105.length : Int)
                      · rw [if_pos c27] at H
                        have c27b0 : decide (x94_3 < (t105.length : Int)) = true := decide_eq_true c27
                        clear c27
                        by_cases c28 : 0 ≤ x94_3
                        · rw [if_pos c28] at H
                          have c28b0 : decide (0 ≤ x94_3) = true := decide_eq_true c28
                          clear c28
                          by_cases c29 : x94_3 < (t105.length : Int)
                          · rw [if_pos c29] at H
                            have c29b0 : decide (x94_3 < (t105.length : Int)) = true := decide_eq_true c29
                            clear c29
                            by_cases c30 : x94_3 > 0
                            · rw [if_pos c30] at H
                              have c30b0 : decide (0 < x94_3) = true := decide_eq_true c30
                              clear c30
                              by_cases c31 : x16_3.size + 1 ≤ 9223372036854775807
                              · rw [if_pos c31] at H
                                have c31b0 := eq_true c31
                                have c31b1 : decide (x16_3.size + 1 ≤ 9223372036854775807) = true := decide_eq_true c31
                                try have c31b2 : (9223372036854775807 < x16_3.size + 1) = False := eq_false (Nat.not_lt.2 c31)
                                by_cases c32 : (x16_3 ++ (⟨#[32]⟩ : ByteArray)).size + (rdOf ByteArray.empty t105 x94_3).size ≤ 9223372036854775807
                                · rw [if_pos c32] at H
                                  have c32b0 := eq_true c32
                                  have c32b1 : decide ((x16_3 ++ (⟨#[32]⟩ : ByteArray)).size + (rdOf ByteArray.empty t105 x94_3).size ≤ 9223372036854775807) = true := decide_eq_true c32
                                  try have c32b2 : (9223372036854775807 < (x16_3 ++ (⟨#[32]⟩ : ByteArray)).size + (rdOf ByteArray.empty t105 x94_3).size) = False := eq_false (Nat.not_lt.2 c32)
                                  try have c32b3 := c32b2
                                  try simp only [ByteArray.size_append, (show ((⟨#[32]⟩ : ByteArray)).size = 1 from rfl)] at c32b3
                                  by_cases c33 : ((rdOf ByteArray.empty t105 x94_3).size : Int) > t102
                                  · rw [if_pos c33] at H
                                    have c33b0 : decide (t102 < ((rdOf ByteArray.empty t105 x94_3).size : Int)) = true := decide_eq_true c33
                                    clear c33
                                    obtain rfl := Option.some.inj H
                                    have p117 : 0 ≤ (x94_3 : Int) := of_decide_eq_true (by first | (with_reducible assumption) | assumption)
                                    have q117 : x94_3 < (t105.length : Int) := of_decide_eq_true (by first | (with_reducible assumption) | assumption)
                                    obtain ⟨ad117, e117, hx117_0⟩ := Kd.at_string (Kd.R_reads' HO_92.out).2.2 x94_3 p117 q117
                                    cases e117
                                    replace p117 := eq_true p117
                                    replace q117 := eq_true q117
                                    go_wp2
                                    go_ret
                                    exact ⟨by first | rfl | (simp [errW_none, errW_some] <;> rfl) | (simp [*, errW_none, errW_some] <;> rfl), by repeat (first | (with_reducible first | exact HB.out | apply below_alloc | apply pw_below_drewN | apply below_drew1) | exact HB.out)⟩
                                  · rw [if_neg c33] at H
                                    have c33b0 : decide (t102 < ((rdOf ByteArray.empty t105 x94_3).size : Int)) = false := decide_eq_false c33
                                    clear c33
                                    have H' := mz H
                                    clear H
                                    have p117 : 0 ≤ (x94_3 : Int) := of_decide_eq_true (by first | (with_reducible assumption) | assumption)
                                    have q117 : x94_3 < (t105.length : Int) := of_decide_eq_true (by first | (with_reducible assumption) | assumption)
                                    obtain ⟨ad117, e117, hx117_0⟩ := Kd.at_string (Kd.R_reads' HO_92.out).2.2 x94_3 p117 q117
                                    cases e117
                                    replace p117 := eq_true p117
                                    replace q117 := eq_true q117
                                    go_wp2
                                    go_roundg k3
                                    case measure => have := HJ6.out; have := HK2.out; have := HK3.out; omega
                                    case rel => exact ⟨((x16_3 ++ (⟨#[32]⟩ : ByteArray)) ++ (rdOf ByteArray.empty t105 x94_3)), (wrap64 (x94_3 + 1)), (by first | rfl | (simp; done) | (simp [*]; done)), (by first | rfl | (simp; done) | (simp [*]; done)), H', ⟨by have := HJ6.out; have := HK2.out; have := HK3.out; omega⟩, ⟨by (with_reducible repeat (first | apply Kd.R_alloc | apply Kd.R_drewN | apply Kd.R_drew)); exact HO_5.out⟩, ⟨by (with_reducible repeat (first | apply Kd.R_alloc | apply Kd.R_drewN | apply Kd.R_drew)); exact HO_7.out⟩, ⟨by (with_reducible repeat (first | apply Kd.R_alloc | apply Kd.R_drewN | apply Kd.R_drew)); exact HO_92.out⟩, ⟨by repeat (first | (with_reducible first | exact HB.out | apply below_alloc | apply pw_below_drewN | apply below_drew1) | exact HB.out)⟩⟩
                                · rw [if_neg c32] at H
                                  exact absurd H (by simp)
                              · rw [if_neg c31] at H
                                exact absurd H (by simp)
                            · rw [if_neg c30] at H
                              have c30b0 : decide (0 < x94_3) = false := decide_eq_false c30
                              clear c30
                              by_cases c34 : x16_3.size + (rdOf ByteArray.empty t105 x94_3).size ≤ 9223372036854775807
                              · rw [if_pos c34] at H
                                have c34b0 := eq_true c34
                                have c34b1 : decide (x16_3.size + (rdOf ByteArray.empty t105 x94_3).size ≤ 9223372036854775807) = true := decide_eq_true c34
                                try have c34b2 : (9223372036854775807 < x16_3.size + (rdOf ByteArray.empty t105 x94_3).size) = False := eq_false (Nat.not_lt.2 c34)
                                by_cases c35 : ((rdOf ByteArray.empty t105 x94_3).size : Int) > t102
                                · rw [if_pos c35] at H
                                  have c35b0 : decide (t102 < ((rdOf ByteArray.empty t105 x94_3).size : Int)) = true := decide_eq_true c35
                                  clear c35
                                  obtain rfl := Option.some.inj H
                                  have p117 : 0 ≤ (x94_3 : Int) := of_decide_eq_true (by first | (with_reducible assumption) | assumption)
                                  have q117 : x94_3 < (t105.length : Int) := of_decide_eq_true (by first | (with_reducible assumption) | assumption)
                                  obtain ⟨ad117, e117, hx117_0⟩ := Kd.at_string (Kd.R_reads' HO_92.out).2.2 x94_3 p117 q117
                                  cases e117
                                  replace p117 := eq_true p117
                                  replace q117 := eq_true q117
                                  go_wp2
                                  go_ret
                                  exact ⟨by first | rfl | (simp [errW_none, errW_some] <;> rfl) | (simp [*, errW_none, errW_some] <;> rfl), by repeat (first | (with_reducible first | exact HB.out | apply below_alloc | apply pw_below_drewN | apply below_drew1) | exact HB.out)⟩
                                · rw [if_neg c35] at H
                                  have c35b0 : decide (t102 < ((rdOf ByteArray.empty t105 x94_3).size : Int)) = false := decide_eq_false c35
                                  clear c35
                                  have H' := mz H
                                  clear H
                                  have p117 : 0 ≤ (x94_3 : Int) := of_decide_eq_true (by first | (with_reducible assumption) | assumption)
                                  have q117 : x94_3 < (t105.length : Int) := of_decide_eq_true (by first | (with_reducible assumption) | assumption)
                                  obtain ⟨ad117, e117, hx117_0⟩ := Kd.at_string (Kd.R_reads' HO_92.out).2.2 x94_3 p117 q117
                                  cases e117
                                  replace p117 := eq_true p117
                                  replace q117 := eq_true q117
                                  go_wp2
                                  go_roundg k3
                                  case measure => have := HJ6.out; have := HK2.out; have := HK3.out; omega
                                  case rel => exact ⟨(x16_3 ++ (rdOf ByteArray.empty t105 x94_3)), (wrap64 (x94_3 + 1)), (by first | rfl | (simp; done) | (simp [*]; done)), (by first | rfl | (simp; done) | (simp [*]; done)), H', ⟨by have := HJ6.out; have := HK2.out; have := HK3.out; omega⟩, ⟨by (with_reducible repeat (first | apply Kd.R_alloc | apply Kd.R_drewN | apply Kd.R_drew)); exact HO_5.out⟩, ⟨by (with_reducible repeat (first | apply Kd.R_alloc | apply Kd.R_drewN | apply Kd.R_drew)); exact HO_7.out⟩, ⟨by (with_reducible repeat (first | apply Kd.R_alloc | apply Kd.R_drewN | apply Kd.R_drew)); exact HO_92.out⟩, ⟨by repeat (first | (with_reducible first | exact HB.out | apply below_alloc | apply pw_below_drewN | apply below_drew1) | exact HB.out)⟩⟩
                              · rw [if_neg c34] at H
                                exact absurd H (by simp)
                          · rw [if_neg c29] at H
                            exact absurd H (by simp)
                        · rw [if_neg c28] at H
                          exact absurd H (by simp)
                      · rw [if_neg c27] at H
                        have c27b0 : decide (x94_3 < (t105.length : Int)) = false := decide_eq_false c27
                        clear c27
                        replace H := be0_ H
                        obtain ⟨⟨t118, t119⟩, A360, H⟩ := H
                        replace H : ((impl_GreedyLines.f k3 t101 t102).bind fun bt120 => ((impl_CostOfLines.f k3 bt120.1 t102).bind fun bt124 => (if x16_3.toList = x13_2.toList then (if t119 = true then (if bt120.2 = true then (if bt124.2 = true then (if t118 = t106 then (laws_FnLines.j3 k3 l1 t101 t102 t106 bt120.1 (decide (bt124.1 < t106))) else (laws_FnLines.j3 k3 l1 t101 t102 t106 bt120.1 true)) else (laws_FnLines.j3 k3 l1 t101 t102 t106 bt120.1 true)) else (laws_FnLines.j3 k3 l1 t101 t102 t106 bt120.1 true)) else (laws_FnLines.j3 k3 l1 t101 t102 t106 bt120.1 true)) else (laws_FnLines.j3 k3 l1 t101 t102 t106 bt120.1 true)))) = some r := H
                        have A36 := mz A360
                        clear A360
                        replace H := be0_ H
                        obtain ⟨⟨t120, t121⟩, A370, H⟩ := H
                        replace H : ((impl_CostOfLines.f k3 t120 t102).bind fun bt124 => (if x16_3.toList = x13_2.toList then (if t119 = true then (if t121 = true then (if bt124.2 = true then (if t118 = t106 then (laws_FnLines.j3 k3 l1 t101 t102 t106 t120 (decide (bt124.1 < t106))) else (laws_FnLines.j3 k3 l1 t101 t102 t106 t120 true)) else (laws_FnLines.j3 k3 l1 t101 t102 t106 t120 true)) else (laws_FnLines.j3 k3 l1 t101 t102 t106 t120 true)) else (laws_FnLines.j3 k3 l1 t101 t102 t106 t120 true)) else (laws_FnLines.j3 k3 l1 t101 t102 t106 t120 true))) = some r := H
                        have A37 := mz A370
                        clear A370
                        replace H := be0_ H
                        obtain ⟨⟨t124, t125⟩, A380, H⟩ := H
                        replace H : (if x16_3.toList = x13_2.toList then (if t119 = true then (if t121 = true then (if t125 = true then (if t118 = t106 then (laws_FnLines.j3 k3 l1 t101 t102 t106 t120 (decide (t124 < t106))) else (laws_FnLines.j3 k3 l1 t101 t102 t106 t120 true)) else (laws_FnLines.j3 k3 l1 t101 t102 t106 t120 true)) else (laws_FnLines.j3 k3 l1 t101 t102 t106 t120 true)) else (laws_FnLines.j3 k3 l1 t101 t102 t106 t120 true)) else (laws_FnLines.j3 k3 l1 t101 t102 t106 t120 true)) = some r := H
                        have A38 := mz A380
                        clear A380
                        have HC39 := mz H
                        clear H
                        go_upto_region 31 with (first | ((with_reducible refine gate_callee (f := 9) rfl ?_); refine goesL_ (some 114) rfl rfl Try.func9 (by kernel_rfl) rfl #[.slice Ao26 t105.length co26, .int .i64 t102] rfl (by (try simp only [List.map_toArray, List.map_cons, List.map_nil]); first | done | rfl | (simp only [List.length_drop, List.length_take]; rfl)) ?_; (with_reducible refine (impl_CostOfLines.calls k3 _ _ t105 t102 t118 t119 _ ?side1 ?side2 A36.out).mono ?_); (case side1 => repeat (first | exact (Kd.R_reads' HO_7.out).2.2 | (with_reducible refine Kd.C_alloc ?_ _) | (with_reducible refine Kd.C_drewN ?_ _) | (with_reducible refine Kd.C_drew ?_))); (case side2 => exact (Kd.R_reads' HO_7.out).2.1); rintro e w' ⟨rfl, ⟨nd, rfl⟩⟩; refine ⟨_, rfl, ?_⟩) | ((with_reducible refine gate_callee (f := 10) rfl ?_); refine goesL_ (some 120) rfl rfl Try.func10 (by kernel_rfl) rfl #[.slice Ao9 t101.length co9, .int .i64 t102] rfl (by (try simp only [List.map_toArray, List.map_cons, List.map_nil]); first | done | rfl | (simp only [List.length_drop, List.length_take]; rfl)) ?_; (with_reducible refine (impl_GreedyLines.calls k3 _ _ t101 t102 t120 t121 _ ?side1 ?side2 A37.out).mono ?_); (case side1 => repeat (first | exact (Kd.R_reads' HO_5.out).2.2 | (with_reducible refine Kd.C_alloc ?_ _) | (with_reducible refine Kd.C_drewN ?_ _) | (with_reducible refine Kd.C_drew ?_))); (case side2 => exact (Kd.R_reads' HO_5.out).2.1); rintro e w40 ⟨v122, rfl, ho0, hb⟩; refine ⟨_, rfl, ?_⟩; have n0_ := mz (Kd.R_elder' (by (with_reducible repeat (first | apply Kd.R_alloc | apply Kd.R_drewN | apply Kd.R_drew)); exact HO_5.out) (Kd.R_base ho0) hb); have n1_ := mz (Kd.R_elder' (by (with_reducible repeat (first | apply Kd.R_alloc | apply Kd.R_drewN | apply Kd.R_drew)); exact HO_7.out) (Kd.R_base ho0) hb); have n2_ := mz (Kd.R_elder' (by (with_reducible repeat (first | apply Kd.R_alloc | apply Kd.R_drewN | apply Kd.R_drew)); exact HO_92.out) (Kd.R_base ho0) hb); have n3_ := mz (Kd.R_lower (Kd.R_new' (Kd.R_new' (Kd.R_new' ho0 (Kd.R_lt (by (with_reducible repeat (first | apply Kd.R_alloc | apply Kd.R_drewN | apply Kd.R_drew)); exact HO_5.out))) (Kd.R_lt (by (with_reducible repeat (first | apply Kd.R_alloc | apply Kd.R_drewN | apply Kd.R_drew)); exact HO_7.out))) (Kd.R_lt (by (with_reducible repeat (first | apply Kd.R_alloc | apply Kd.R_drewN | apply Kd.R_drew)); exact HO_92.out))) (below_size (by repeat (first | (with_reducible first | exact HB.out | apply below_alloc | apply pw_below_drewN | apply below_drew1) | exact HB.out)))); have n4_ := mz (below_step (by repeat (first | (with_reducible first | exact HB.out | apply below_alloc | apply pw_below_drewN | apply below_drew1) | exact HB.out)) hb); clear HO_5; clear HO_7; clear HO_92; clear HB; have HO_5 := n0_; have HO_7 := n1_; have HO_92 := n2_; have HO123 := n3_; have HB := n4_; clear n0_ n1_ n2_ n3_ n4_; (try clear hb); (try clear hb2); (try clear hk); (try clear hi); (try clear ho0); obtain ⟨Ao41, co41, eo41⟩ := Kd.R_slice HO123.out; subst eo41) | ((with_reducible refine gate_callee (f := 9) rfl ?_); refine goesL_ (some 126) rfl rfl Try.func9 (by kernel_rfl) rfl #[.slice Ao41 t120.length co41, .int .i64 t102] rfl (by (try simp only [List.map_toArray, List.map_cons, List.map_nil]); first | done | rfl | (simp only [List.length_drop, List.length_take]; rfl)) ?_; (with_reducible refine (impl_CostOfLines.calls k3 _ _ t120 t102 t124 t125 _ ?side1 ?side2 A38.out).mono ?_); (case side1 => repeat (first | exact (Kd.R_reads' HO123.out).2.2 | (with_reducible refine Kd.C_alloc ?_ _) | (with_reducible refine Kd.C_drewN ?_ _) | (with_reducible refine Kd.C_drew ?_))); (case side2 => exact (Kd.R_reads' HO123.out).2.1); rintro e w' ⟨rfl, ⟨nd, rfl⟩⟩; refine ⟨_, rfl, ?_⟩))
                        (try simp only [Act.put, List.setIfInBounds_toArray, List.set_cons_zero, List.set_cons_succ])
                        go_cut [153] (fun v153 wc => ∃ (kq : Nat) (x153_38 : Bool), v153 = .bool x153_38 ∧ Aside0 (laws_FnLines.j3 kq l1 t101 t102 t106 t120 x153_38 = some r) ∧ Aside0 (kq ≤ k3) ∧ Aside0 (Kd.R Kd.string 9 wc w.heap.size (fun k_ => some k_ ≠ ((.slice Ao41 t120.length co41) : Value).ownBlock) (.slice Ao9 t101.length co9) t101) ∧ Aside0 (Kd.R Kd.string 9 wc w.heap.size (fun k_ => some k_ ≠ ((.slice Ao9 t101.length co9) : Value).ownBlock) (.slice Ao41 t120.length co41) t120) ∧ Aside0 (Below w.heap.size w wc))
                        case first =>
                          have H := HC39.out
                          clear HC39
                          by_cases c42 : x16_3.toList = x13_2.toList
                          · rw [if_pos c42] at H
                            have c42b0 : (x16_3.toList == x13_2.toList) = true := beq_iff_eq.mpr c42
                            have c42b1 : (x16_3.toList != x13_2.toList) = false := bne_eq_false_iff_eq.mpr c42
                            clear c42
                            (first | rw [c42b0] | (simp only [i64_w, i32_w]; rw [c42b0]) | skip)
                            by_cases c43 : t119 = true
                            · subst c43
                              have H1 : (if t121 = true then (if t125 = true then (if t118 = t106 then (laws_FnLines.j3 k3 l1 t101 t102 t106 t120 (decide (t124 < t106))) else (laws_FnLines.j3 k3 l1 t101 t102 t106 t120 true)) else (laws_FnLines.j3 k3 l1 t101 t102 t106 t120 true)) else (laws_FnLines.j3 k3 l1 t101 t102 t106 t120 true)) = some r := by rw [if_pos rfl] at H; exact H
                              clear H
                              have H := H1
                              clear H1
                              by_cases c44 : t121 = true
                              · subst c44
                                have H1 : (if t125 = true then (if t118 = t106 then (laws_FnLines.j3 k3 l1 t101 t102 t106 t120 (decide (t124 < t106))) else (laws_FnLines.j3 k3 l1 t101 t102 t106 t120 true)) else (laws_FnLines.j3 k3 l1 t101 t102 t106 t120 true)) = some r := by rw [if_pos rfl] at H; exact H
                                clear H
                                have H := H1
                                clear H1
                                by_cases c45 : t125 = true
                                · subst c45
                                  have H1 : (if t118 = t106 then (laws_FnLines.j3 k3 l1 t101 t102 t106 t120 (decide (t124 < t106))) else (laws_FnLines.j3 k3 l1 t101 t102 t106 t120 true)) = some r := by rw [if_pos rfl] at H; exact H
                                  clear H
                                  have H := H1
                                  clear H1
                                  by_cases c46 : t118 = t106
                                  · rw [if_pos c46] at H
                                    have c46b0 : (t118 == t106) = true := beq_iff_eq.mpr c46
                                    have c46b1 : (t118 != t106) = false := bne_eq_false_iff_eq.mpr c46
                                    clear c46
                                    have H' := mz H
                                    clear H
                                    go_wp2
                                    go_meet
                                    case rel => exact ⟨_, (decide (t124 < t106)), (by first | rfl | (simp; done) | (simp [*]; done)), H', ⟨by have := HJ6.out; have := HK2.out; have := HK3.out; first | omega | exact Nat.le_refl _⟩, ⟨by (with_reducible repeat (first | apply Kd.R_alloc | apply Kd.R_drewN | apply Kd.R_drew)); exact Kd.R_mono HO_5.out (fun _ hk => hk.2)⟩, ⟨by (with_reducible repeat (first | apply Kd.R_alloc | apply Kd.R_drewN | apply Kd.R_drew)); exact Kd.R_mono HO123.out (fun _ hk => hk.1.1.2)⟩, ⟨by repeat (first | (with_reducible first | exact HB.out | apply below_alloc | apply pw_below_drewN | apply below_drew1) | exact HB.out)⟩⟩
                                  · rw [if_neg c46] at H
                                    have c46b0 : (t118 == t106) = false := beq_eq_false_iff_ne.mpr c46
                                    have c46b1 : (t118 != t106) = true := bne_iff_ne.mpr c46
                                    have H' := mz H
                                    clear H
                                    go_wp2
                                    go_meet
                                    case rel => exact ⟨_, (true), (by first | rfl | (simp; done) | (simp [*]; done)), H', ⟨by have := HJ6.out; have := HK2.out; have := HK3.out; first | omega | exact Nat.le_refl _⟩, ⟨by (with_reducible repeat (first | apply Kd.R_alloc | apply Kd.R_drewN | apply Kd.R_drew)); exact Kd.R_mono HO_5.out (fun _ hk => hk.2)⟩, ⟨by (with_reducible repeat (first | apply Kd.R_alloc | apply Kd.R_drewN | apply Kd.R_drew)); exact Kd.R_mono HO123.out (fun _ hk => hk.1.1.2)⟩, ⟨by repeat (first | (with_reducible first | exact HB.out | apply below_alloc | apply pw_below_drewN | apply below_drew1) | exact HB.out)⟩⟩
                                · replace c45 := Bool.eq_false_iff.mpr c45
                                  subst c45
                                  have H1 : (laws_FnLines.j3 k3 l1 t101 t102 t106 t120 true) = some r := by rw [if_neg (show ¬ (false = true) by decide)] at H; exact H
                                  clear H
                                  have H := H1
                                  clear H1
                                  have H' := mz H
                                  clear H
                                  go_wp2
                                  go_meet
                                  case rel => exact ⟨_, (true), (by first | rfl | (simp; done) | (simp [*]; done)), H', ⟨by have := HJ6.out; have := HK2.out; have := HK3.out; first | omega | exact Nat.le_refl _⟩, ⟨by (with_reducible repeat (first | apply Kd.R_alloc | apply Kd.R_drewN | apply Kd.R_drew)); exact Kd.R_mono HO_5.out (fun _ hk => hk.2)⟩, ⟨by (with_reducible repeat (first | apply Kd.R_alloc | apply Kd.R_drewN | apply Kd.R_drew)); exact Kd.R_mono HO123.out (fun _ hk => hk.1.1.2)⟩, ⟨by repeat (first | (with_reducible first | exact HB.out | apply below_alloc | apply pw_below_drewN | apply below_drew1) | exact HB.out)⟩⟩
                              · replace c44 := Bool.eq_false_iff.mpr c44
                                subst c44
                                have H1 : (laws_FnLines.j3 k3 l1 t101 t102 t106 t120 true) = some r := by rw [if_neg (show ¬ (false = true) by decide)] at H; exact H
                                clear H
                                have H := H1
                                clear H1
                                have H' := mz H
                                clear H
                                go_wp2
                                go_meet
                                case rel => exact ⟨_, (true), (by first | rfl | (simp; done) | (simp [*]; done)), H', ⟨by have := HJ6.out; have := HK2.out; have := HK3.out; first | omega | exact Nat.le_refl _⟩, ⟨by (with_reducible repeat (first | apply Kd.R_alloc | apply Kd.R_drewN | apply Kd.R_drew)); exact Kd.R_mono HO_5.out (fun _ hk => hk.2)⟩, ⟨by (with_reducible repeat (first | apply Kd.R_alloc | apply Kd.R_drewN | apply Kd.R_drew)); exact Kd.R_mono HO123.out (fun _ hk => hk.1.1.2)⟩, ⟨by repeat (first | (with_reducible first | exact HB.out | apply below_alloc | apply pw_below_drewN | apply below_drew1) | exact HB.out)⟩⟩
                            · replace c43 := Bool.eq_false_iff.mpr c43
                              subst c43
                              have H1 : (laws_FnLines.j3 k3 l1 t101 t102 t106 t120 true) = some r := by rw [if_neg (show ¬ (false = true) by decide)] at H; exact H
                              clear H
                              have H := H1
                              clear H1
                              have H' := mz H
                              clear H
                              go_wp2
                              go_meet
                              case rel => exact ⟨_, (true), (by first | rfl | (simp; done) | (simp [*]; done)), H', ⟨by have := HJ6.out; have := HK2.out; have := HK3.out; first | omega | exact Nat.le_refl _⟩, ⟨by (with_reducible repeat (first | apply Kd.R_alloc | apply Kd.R_drewN | apply Kd.R_drew)); exact Kd.R_mono HO_5.out (fun _ hk => hk.2)⟩, ⟨by (with_reducible repeat (first | apply Kd.R_alloc | apply Kd.R_drewN | apply Kd.R_drew)); exact Kd.R_mono HO123.out (fun _ hk => hk.1.1.2)⟩, ⟨by repeat (first | (with_reducible first | exact HB.out | apply below_alloc | apply pw_below_drewN | apply below_drew1) | exact HB.out)⟩⟩
                          · rw [if_neg c42] at H
                            have c42b0 : (x16_3.toList == x13_2.toList) = false := beq_eq_false_iff_ne.mpr c42
                            have c42b1 : (x16_3.toList != x13_2.toList) = true := bne_iff_ne.mpr c42
                            (first | rw [c42b0] | (simp only [i64_w, i32_w]; rw [c42b0]) | skip)
                            have H' := mz H
                            clear H
                            go_wp2
                            go_meet
                            case rel => exact ⟨_, (true), (by first | rfl | (simp; done) | (simp [*]; done)), H', ⟨by have := HJ6.out; have := HK2.out; have := HK3.out; first | omega | exact Nat.le_refl _⟩, ⟨by (with_reducible repeat (first | apply Kd.R_alloc | apply Kd.R_drewN | apply Kd.R_drew)); exact Kd.R_mono HO_5.out (fun _ hk => hk.2)⟩, ⟨by (with_reducible repeat (first | apply Kd.R_alloc | apply Kd.R_drewN | apply Kd.R_drew)); exact Kd.R_mono HO123.out (fun _ hk => hk.1.1.2)⟩, ⟨by repeat (first | (with_reducible first | exact HB.out | apply below_alloc | apply pw_below_drewN | apply below_drew1) | exact HB.out)⟩⟩
                        case rest =>
                          clear HC39
                          try clear c1
                          try clear p1
                          try clear q1
                          try clear hx1
                          try clear c2
                          try clear p2
                          try clear c3
                          try clear c3b0
                          try clear c4
                          try clear c5
                          try clear c6
                          try clear p6
                          try clear c7
                          try clear c9
                          try clear c10
                          try clear p11
                          try clear q11
                          try clear hx11
                          try clear c12
                          try clear c12b0
                          try clear c12b1
                          try clear c12b2
                          try clear c13
                          try clear c13b0
                          try clear c13b1
                          try clear c17
                          try clear c18
                          try clear c19
                          try clear c19b0
                          try clear c20
                          try clear c20b0
                          try clear c21
                          try clear c21b0
                          try clear c22
                          try clear c22b0
                          try clear c23
                          try clear c23b0
                          try clear c23b1
                          try clear c23b2
                          try clear c24
                          try clear c24b0
                          try clear c24b1
                          try clear c24b2
                          try clear c25
                          try clear c25b0
                          try clear c25b1
                          try clear c25b2
                          try clear c27
                          try clear c27b0
                          try clear c28
                          try clear c28b0
                          try clear c29
                          try clear c29b0
                          try clear c30
                          try clear c30b0
                          try clear c31
                          try clear c31b0
                          try clear c31b1
                          try clear c31b2
                          try clear c32
                          try clear c32b0
                          try clear c32b1
                          try clear c32b2
                          try clear c33
                          try clear c33b0
                          try clear c34
                          try clear c34b0
                          try clear c34b1
                          try clear c34b2
                          try clear c35
                          try clear c35b0
                          try clear c42
                          try clear c42b0
                          try clear c42b1
                          try clear c43
                          try clear c44
                          try clear c45
                          try clear c46
                          try clear c46b0
                          try clear c46b1
                          try clear hx116_0
                          try clear hx117_0
                          try clear p1
                          try clear p11
                          try clear p116
                          try clear p117
                          try clear p2
                          try clear p6
                          try clear q1
                          try clear q11
                          try clear q116
                          try clear q117
                          obtain ⟨kq, x153_38, rfl, HA, HJ38, HO_5, HO_21, HB⟩ := hcut
                          cases kq with
                          | zero => exact absurd HA.out (by simp [laws_FnLines.j3])
                          | succ kj38 =>
                            have H := HA.out
                            clear HA
                            simp only [laws_FnLines.j3] at H
                            by_cases c47 : x153_38 = true
                            · subst c47
                              have H1 : (some false) = some r := by rw [if_pos rfl] at H; exact H
                              clear H
                              have H := H1
                              clear H1
                              obtain rfl := Option.some.inj H
                              go_wp2
                              go_ret
                              exact ⟨by first | rfl | (simp [errW_none, errW_some] <;> rfl) | (simp [*, errW_none, errW_some] <;> rfl), by repeat (first | (with_reducible first | exact HB.out | apply below_alloc | apply pw_below_drewN | apply below_drew1) | exact HB.out)⟩
                            · replace c47 := Bool.eq_false_iff.mpr c47
                              subst c47
                              have H1 : ((spec_DrawBreakAt.f kj38 l1).bind fun bt126 => ((impl_BreakAt.f t101 bt126.2.1 t102).bind fun bt133 => ((spec_BreakAt.f kj38 t101 bt126.2.1 t102).bind fun bt137 => (if (bt133.2 != bt137.2) = true then (some false) else ((laws_sameTexts.f kj38 bt133.1 bt137.1).bind fun t141 => (if t141 = true then ((impl_CostOfLines.f kj38 bt133.1 t102).bind fun bt142 => (if bt133.2 = true then (if bt142.2 = true then (if bt142.1 ≥ t106 then (some (decide ((bt133.1.length : Int) ≥ (t120.length : Int)))) else (some false)) else (some false)) else (some true))) else (some false))))))) = some r := by rw [if_neg (show ¬ (false = true) by decide)] at H; exact H
                              clear H
                              have H := H1
                              clear H1
                              replace H := be0_ H
                              obtain ⟨⟨t126, t127, t128⟩, A480, H⟩ := H
                              replace H : ((impl_BreakAt.f t101 t127 t102).bind fun bt133 => ((spec_BreakAt.f kj38 t101 t127 t102).bind fun bt137 => (if (bt133.2 != bt137.2) = true then (some false) else ((laws_sameTexts.f kj38 bt133.1 bt137.1).bind fun t141 => (if t141 = true then ((impl_CostOfLines.f kj38 bt133.1 t102).bind fun bt142 => (if bt133.2 = true then (if bt142.2 = true then (if bt142.1 ≥ t106 then (some (decide ((bt133.1.length : Int) ≥ (t120.length : Int)))) else (some false)) else (some false)) else (some true))) else (some false)))))) = some r := H
                              have A48 := mz A480
                              clear A480
                              replace H := be0_ H
                              obtain ⟨⟨t133, t134⟩, A490, H⟩ := H
                              replace H : ((spec_BreakAt.f kj38 t101 t127 t102).bind fun bt137 => (if (t134 != bt137.2) = true then (some false) else ((laws_sameTexts.f kj38 t133 bt137.1).bind fun t141 => (if t141 = true then ((impl_CostOfLines.f kj38 t133 t102).bind fun bt142 => (if t134 = true then (if bt142.2 = true then (if bt142.1 ≥ t106 then (some (decide ((t133.length : Int) ≥ (t120.length : Int)))) else (some false)) else (some false)) else (some true))) else (some false))))) = some r := H
                              have A49 := mz A490
                              clear A490
                              replace H := be0_ H
                              obtain ⟨⟨t137, t138⟩, A500, H⟩ := H
                              replace H : (if (t134 != t138) = true then (some false) else ((laws_sameTexts.f kj38 t133 t137).bind fun t141 => (if t141 = true then ((impl_CostOfLines.f kj38 t133 t102).bind fun bt142 => (if t134 = true then (if bt142.2 = true then (if bt142.1 ≥ t106 then (some (decide ((t133.length : Int) ≥ (t120.length : Int)))) else (some false)) else (some false)) else (some true))) else (some false)))) = some r := H
                              have A50 := mz A500
                              clear A500
                              by_cases c51 : (t134 != t138) = true
                              · rw [if_pos c51] at H
                                have c51b0 : (t134 != t138) = true := c51
                                (try (have c51b1 : decide (t134 = t138) = false := by simpa using c51))
                                (try (have c51b2 : (t134 == t138) = false := by simpa using c51))
                                (try (have c51b3 : ¬ (t134 = t138) := by simpa using c51))
                                clear c51
                                obtain rfl := Option.some.inj H
                                go_wp2_with (first | ((with_reducible refine gate_callee (f := 11) rfl ?_); refine goesL_ (some 156) rfl rfl Try.func11 (by kernel_rfl) rfl #[.slice A1 l1.length c1] rfl (by (try simp only [List.map_toArray, List.map_cons, List.map_nil]); first | done | rfl | (simp only [List.length_drop, List.length_take]; rfl)) ?_; (with_reducible refine (spec_DrawBreakAt.calls kj38 _ _ l1 t126 t127 t128 _ ?side1 ?side2 A48.out).mono ?_); (case side1 => repeat (first | exact (Kd.C_below HR1.out HB.out) | (with_reducible refine Kd.C_alloc ?_ _) | (with_reducible refine Kd.C_drewN ?_ _) | (with_reducible refine Kd.C_drew ?_))); (case side2 => exact HC1.out); rintro e w52 ⟨v129, v131, rfl, ho0, ho1, hb⟩; refine ⟨_, rfl, ?_⟩; have n0_ := mz (Kd.R_elder' (by (with_reducible repeat (first | apply Kd.R_alloc | apply Kd.R_drewN | apply Kd.R_drew)); exact HO_5.out) (Kd.R_base ho0) hb); have n1_ := mz (Kd.R_elder' (by (with_reducible repeat (first | apply Kd.R_alloc | apply Kd.R_drewN | apply Kd.R_drew)); exact HO_21.out) (Kd.R_base ho0) hb); have n2_ := mz (Kd.R_lower (Kd.R_new' (Kd.R_new' ho0 (Kd.R_lt (by (with_reducible repeat (first | apply Kd.R_alloc | apply Kd.R_drewN | apply Kd.R_drew)); exact HO_5.out))) (Kd.R_lt (by (with_reducible repeat (first | apply Kd.R_alloc | apply Kd.R_drewN | apply Kd.R_drew)); exact HO_21.out))) (below_size (by repeat (first | (with_reducible first | exact HB.out | apply below_alloc | apply pw_below_drewN | apply below_drew1) | exact HB.out)))); have n3_ := mz (Kd.R_lower ho1 (below_size (by repeat (first | (with_reducible first | exact HB.out | apply below_alloc | apply pw_below_drewN | apply below_drew1) | exact HB.out)))); have n4_ := mz (below_step (by repeat (first | (with_reducible first | exact HB.out | apply below_alloc | apply pw_below_drewN | apply below_drew1) | exact HB.out)) hb); clear HO_5; clear HO_21; clear HB; have HO_5 := n0_; have HO_21 := n1_; have HO130 := n2_; have HO132 := n3_; have HB := n4_; clear n0_ n1_ n2_ n3_ n4_; (try clear hb); (try clear hb2); (try clear hk); (try clear hi); (try clear ho0); (try clear ho1); obtain ⟨Ao53, co53, eo53⟩ := Kd.R_slice HO132.out; subst eo53) | ((with_reducible refine gate_callee (f := 12) rfl ?_); refine goesL_ (some 164) rfl rfl Try.func12 (by kernel_rfl) rfl #[.slice Ao9 t101.length co9, .slice Ao53 t127.length co53, .int .i64 t102] rfl (by (try simp only [List.map_toArray, List.map_cons, List.map_nil]); first | done | rfl | (simp only [List.length_drop, List.length_take]; rfl)) ?_; (with_reducible refine (impl_BreakAt.calls _ _ t101 _ _ t127 t102 t133 t134 _ ?side1 ?side2 ?side3 ?side4 A49.out).mono ?_); (case side1 => repeat (first | exact (Kd.R_reads' HO_5.out).2.2 | (with_reducible refine Kd.C_alloc ?_ _) | (with_reducible refine Kd.C_drewN ?_ _) | (with_reducible refine Kd.C_drew ?_))); (case side2 => exact (Kd.R_reads' HO_5.out).2.1); (case side3 => repeat (first | exact (Kd.R_reads' HO132.out).2.2 | (with_reducible refine Kd.C_alloc ?_ _) | (with_reducible refine Kd.C_drewN ?_ _) | (with_reducible refine Kd.C_drew ?_))); (case side4 => exact (Kd.R_reads' HO132.out).2.1); rintro e w54 ⟨v135, rfl, ho0, hb⟩; refine ⟨_, rfl, ?_⟩; have n0_ := mz (Kd.R_elder' (by (with_reducible repeat (first | apply Kd.R_alloc | apply Kd.R_drewN | apply Kd.R_drew)); exact HO_5.out) (Kd.R_base ho0) hb); have n1_ := mz (Kd.R_elder' (by (with_reducible repeat (first | apply Kd.R_alloc | apply Kd.R_drewN | apply Kd.R_drew)); exact HO_21.out) (Kd.R_base ho0) hb); have n2_ := mz (Kd.R_elder' (by (with_reducible repeat (first | apply Kd.R_alloc | apply Kd.R_drewN | apply Kd.R_drew)); exact HO130.out) (Kd.R_base ho0) hb); have n3_ := mz (Kd.R_below (by (with_reducible repeat (first | apply Kd.R_alloc | apply Kd.R_drewN | apply Kd.R_drew)); exact HO132.out) hb); have n4_ := mz (Kd.R_lower (Kd.R_new' (Kd.R_new' (Kd.R_new' ho0 (Kd.R_lt (by (with_reducible repeat (first | apply Kd.R_alloc | apply Kd.R_drewN | apply Kd.R_drew)); exact HO_5.out))) (Kd.R_lt (by (with_reducible repeat (first | apply Kd.R_alloc | apply Kd.R_drewN | apply Kd.R_drew)); exact HO_21.out))) (Kd.R_lt (by (with_reducible repeat (first | apply Kd.R_alloc | apply Kd.R_drewN | apply Kd.R_drew)); exact HO130.out))) (below_size (by repeat (first | (with_reducible first | exact HB.out | apply below_alloc | apply pw_below_drewN | apply below_drew1) | exact HB.out)))); have n5_ := mz (below_step (by repeat (first | (with_reducible first | exact HB.out | apply below_alloc | apply pw_below_drewN | apply below_drew1) | exact HB.out)) hb); clear HO_5; clear HO_21; clear HO130; clear HO132; clear HB; have HO_5 := n0_; have HO_21 := n1_; have HO130 := n2_; have HO132 := n3_; have HO136 := n4_; have HB := n5_; clear n0_ n1_ n2_ n3_ n4_ n5_; (try clear hb); (try clear hb2); (try clear hk); (try clear hi); (try clear ho0)) | ((with_reducible refine gate_callee (f := 13) rfl ?_); refine goesL_ (some 171) rfl rfl Try.func13 (by kernel_rfl) rfl #[.slice Ao9 t101.length co9, .slice Ao53 t127.length co53, .int .i64 t102] rfl (by (try simp only [List.map_toArray, List.map_cons, List.map_nil]); first | done | rfl | (simp only [List.length_drop, List.length_take]; rfl)) ?_; (with_reducible refine (spec_BreakAt.calls kj38 _ _ t101 _ _ t127 t102 t137 t138 _ ?side1 ?side2 ?side3 ?side4 A50.out).mono ?_); (case side1 => repeat (first | exact (Kd.R_reads' HO_5.out).2.2 | (with_reducible refine Kd.C_alloc ?_ _) | (with_reducible refine Kd.C_drewN ?_ _) | (with_reducible refine Kd.C_drew ?_))); (case side2 => exact (Kd.R_reads' HO_5.out).2.1); (case side3 => repeat (first | exact (Kd.R_reads' HO132.out).2.2 | (with_reducible refine Kd.C_alloc ?_ _) | (with_reducible refine Kd.C_drewN ?_ _) | (with_reducible refine Kd.C_drew ?_))); (case side4 => exact (Kd.R_reads' HO132.out).2.1); rintro e w55 ⟨v139, rfl, ho0, hb⟩; refine ⟨_, rfl, ?_⟩; have n0_ := mz (Kd.R_elder' (by (with_reducible repeat (first | apply Kd.R_alloc | apply Kd.R_drewN | apply Kd.R_drew)); exact HO_5.out) (Kd.R_base ho0) hb); have n1_ := mz (Kd.R_elder' (by (with_reducible repeat (first | apply Kd.R_alloc | apply Kd.R_drewN | apply Kd.R_drew)); exact HO_21.out) (Kd.R_base ho0) hb); have n2_ := mz (Kd.R_elder' (by (with_reducible repeat (first | apply Kd.R_alloc | apply Kd.R_drewN | apply Kd.R_drew)); exact HO130.out) (Kd.R_base ho0) hb); have n3_ := mz (Kd.R_below (by (with_reducible repeat (first | apply Kd.R_alloc | apply Kd.R_drewN | apply Kd.R_drew)); exact HO132.out) hb); have n4_ := mz (Kd.R_elder' (by (with_reducible repeat (first | apply Kd.R_alloc | apply Kd.R_drewN | apply Kd.R_drew)); exact HO136.out) (Kd.R_base ho0) hb); have n5_ := mz (Kd.R_lower (Kd.R_new' (Kd.R_new' (Kd.R_new' (Kd.R_new' ho0 (Kd.R_lt (by (with_reducible repeat (first | apply Kd.R_alloc | apply Kd.R_drewN | apply Kd.R_drew)); exact HO_5.out))) (Kd.R_lt (by (with_reducible repeat (first | apply Kd.R_alloc | apply Kd.R_drewN | apply Kd.R_drew)); exact HO_21.out))) (Kd.R_lt (by (with_reducible repeat (first | apply Kd.R_alloc | apply Kd.R_drewN | apply Kd.R_drew)); exact HO130.out))) (Kd.R_lt (by (with_reducible repeat (first | apply Kd.R_alloc | apply Kd.R_drewN | apply Kd.R_drew)); exact HO136.out))) (below_size (by repeat (first | (with_reducible first | exact HB.out | apply below_alloc | apply pw_below_drewN | apply below_drew1) | exact HB.out)))); have n6_ := mz (below_step (by repeat (first | (with_reducible first | exact HB.out | apply below_alloc | apply pw_below_drewN | apply below_drew1) | exact HB.out)) hb); clear HO_5; clear HO_21; clear HO130; clear HO132; clear HO136; clear HB; have HO_5 := n0_; have HO_21 := n1_; have HO130 := n2_; have HO132 := n3_; have HO136 := n4_; have HO140 := n5_; have HB := n6_; clear n0_ n1_ n2_ n3_ n4_ n5_ n6_; (try clear hb); (try clear hb2); (try clear hk); (try clear hi); (try clear ho0)))
                                go_ret
                                exact ⟨by first | rfl | (simp [errW_none, errW_some] <;> rfl) | (simp [*, errW_none, errW_some] <;> rfl), by repeat (first | (with_reducible first | exact HB.out | apply below_alloc | apply pw_below_drewN | apply below_drew1) | exact HB.out)⟩
                              · rw [if_neg c51] at H
                                have c51b0 : (t134 != t138) = false := by simpa using c51
                                (try (have c51b1 : decide (t134 = t138) = true := by simpa using c51))
                                (try (have c51b2 : (t134 == t138) = true := by simpa using c51))
                                clear c51
                                replace H := be0_ H
                                obtain ⟨t141, A560, H⟩ := H
                                replace H : (if t141 = true then ((impl_CostOfLines.f kj38 t133 t102).bind fun bt142 => (if t134 = true then (if bt142.2 = true then (if bt142.1 ≥ t106 then (some (decide ((t133.length : Int) ≥ (t120.length : Int)))) else (some false)) else (some false)) else (some true))) else (some false)) = some r := H
                                have A56 := mz A560
                                clear A560
                                by_cases c57 : t141 = true
                                · subst c57
                                  have H1 : ((impl_CostOfLines.f kj38 t133 t102).bind fun bt142 => (if t134 = true then (if bt142.2 = true then (if bt142.1 ≥ t106 then (some (decide ((t133.length : Int) ≥ (t120.length : Int)))) else (some false)) else (some false)) else (some true))) = some r := by rw [if_pos rfl] at H; exact H
                                  clear H
                                  have H := H1
                                  clear H1
                                  replace H := be0_ H
                                  obtain ⟨⟨t142, t143⟩, A580, H⟩ := H
                                  replace H : (if t134 = true then (if t143 = true then (if t142 ≥ t106 then (some (decide ((t133.length : Int) ≥ (t120.length : Int)))) else (some false)) else (some false)) else (some true)) = some r := H
                                  have A58 := mz A580
                                  clear A580
                                  by_cases c59 : t134 = true
                                  · subst c59
                                    have H1 : (if t143 = true then (if t142 ≥ t106 then (some (decide ((t133.length : Int) ≥ (t120.length : Int)))) else (some false)) else (some false)) = some r := by rw [if_pos rfl] at H; exact H
                                    clear H
                                    have H := H1
                                    clear H1
                                    by_cases c60 : t143 = true
                                    · subst c60
                                      have H1 : (if t142 ≥ t106 then (some (decide ((t133.length : Int) ≥ (t120.length : Int)))) else (some false)) = some r := by rw [if_pos rfl] at H; exact H
                                      clear H
                                      have H := H1
                                      clear H1
                                      by_cases c61 : t142 ≥ t106
                                      · rw [if_pos c61] at H
                                        have c61b0 : decide (t106 ≤ t142) = true := decide_eq_true c61
                                        clear c61
                                        obtain rfl := Option.some.inj H
                                        go_wp2_with (first | ((with_reducible refine gate_callee (f := 11) rfl ?_); refine goesL_ (some 156) rfl rfl Try.func11 (by kernel_rfl) rfl #[.slice A1 l1.length c1] rfl (by (try simp only [List.map_toArray, List.map_cons, List.map_nil]); first | done | rfl | (simp only [List.length_drop, List.length_take]; rfl)) ?_; (with_reducible refine (spec_DrawBreakAt.calls kj38 _ _ l1 t126 t127 t128 _ ?side1 ?side2 A48.out).mono ?_); (case side1 => repeat (first | exact (Kd.C_below HR1.out HB.out) | (with_reducible refine Kd.C_alloc ?_ _) | (with_reducible refine Kd.C_drewN ?_ _) | (with_reducible refine Kd.C_drew ?_))); (case side2 => exact HC1.out); rintro e w62 ⟨v129, v131, rfl, ho0, ho1, hb⟩; refine ⟨_, rfl, ?_⟩; have n0_ := mz (Kd.R_elder' (by (with_reducible repeat (first | apply Kd.R_alloc | apply Kd.R_drewN | apply Kd.R_drew)); exact HO_5.out) (Kd.R_base ho0) hb); have n1_ := mz (Kd.R_elder' (by (with_reducible repeat (first | apply Kd.R_alloc | apply Kd.R_drewN | apply Kd.R_drew)); exact HO_21.out) (Kd.R_base ho0) hb); have n2_ := mz (Kd.R_lower (Kd.R_new' (Kd.R_new' ho0 (Kd.R_lt (by (with_reducible repeat (first | apply Kd.R_alloc | apply Kd.R_drewN | apply Kd.R_drew)); exact HO_5.out))) (Kd.R_lt (by (with_reducible repeat (first | apply Kd.R_alloc | apply Kd.R_drewN | apply Kd.R_drew)); exact HO_21.out))) (below_size (by repeat (first | (with_reducible first | exact HB.out | apply below_alloc | apply pw_below_drewN | apply below_drew1) | exact HB.out)))); have n3_ := mz (Kd.R_lower ho1 (below_size (by repeat (first | (with_reducible first | exact HB.out | apply below_alloc | apply pw_below_drewN | apply below_drew1) | exact HB.out)))); have n4_ := mz (below_step (by repeat (first | (with_reducible first | exact HB.out | apply below_alloc | apply pw_below_drewN | apply below_drew1) | exact HB.out)) hb); clear HO_5; clear HO_21; clear HB; have HO_5 := n0_; have HO_21 := n1_; have HO130 := n2_; have HO132 := n3_; have HB := n4_; clear n0_ n1_ n2_ n3_ n4_; (try clear hb); (try clear hb2); (try clear hk); (try clear hi); (try clear ho0); (try clear ho1); obtain ⟨Ao63, co63, eo63⟩ := Kd.R_slice HO132.out; subst eo63) | ((with_reducible refine gate_callee (f := 12) rfl ?_); refine goesL_ (some 164) rfl rfl Try.func12 (by kernel_rfl) rfl #[.slice Ao9 t101.length co9, .slice Ao63 t127.length co63, .int .i64 t102] rfl (by (try simp only [List.map_toArray, List.map_cons, List.map_nil]); first | done | rfl | (simp only [List.length_drop, List.length_take]; rfl)) ?_; (with_reducible refine (impl_BreakAt.calls _ _ t101 _ _ t127 t102 t133 true _ ?side1 ?side2 ?side3 ?side4 A49.out).mono ?_); (case side1 => repeat (first | exact (Kd.R_reads' HO_5.out).2.2 | (with_reducible refine Kd.C_alloc ?_ _) | (with_reducible refine Kd.C_drewN ?_ _) | (with_reducible refine Kd.C_drew ?_))); (case side2 => exact (Kd.R_reads' HO_5.out).2.1); (case side3 => repeat (first | exact (Kd.R_reads' HO132.out).2.2 | (with_reducible refine Kd.C_alloc ?_ _) | (with_reducible refine Kd.C_drewN ?_ _) | (with_reducible refine Kd.C_drew ?_))); (case side4 => exact (Kd.R_reads' HO132.out).2.1); rintro e w64 ⟨v135, rfl, ho0, hb⟩; refine ⟨_, rfl, ?_⟩; have n0_ := mz (Kd.R_elder' (by (with_reducible repeat (first | apply Kd.R_alloc | apply Kd.R_drewN | apply Kd.R_drew)); exact HO_5.out) (Kd.R_base ho0) hb); have n1_ := mz (Kd.R_elder' (by (with_reducible repeat (first | apply Kd.R_alloc | apply Kd.R_drewN | apply Kd.R_drew)); exact HO_21.out) (Kd.R_base ho0) hb); have n2_ := mz (Kd.R_elder' (by (with_reducible repeat (first | apply Kd.R_alloc | apply Kd.R_drewN | apply Kd.R_drew)); exact HO130.out) (Kd.R_base ho0) hb); have n3_ := mz (Kd.R_below (by (with_reducible repeat (first | apply Kd.R_alloc | apply Kd.R_drewN | apply Kd.R_drew)); exact HO132.out) hb); have n4_ := mz (Kd.R_lower (Kd.R_new' (Kd.R_new' (Kd.R_new' ho0 (Kd.R_lt (by (with_reducible repeat (first | apply Kd.R_alloc | apply Kd.R_drewN | apply Kd.R_drew)); exact HO_5.out))) (Kd.R_lt (by (with_reducible repeat (first | apply Kd.R_alloc | apply Kd.R_drewN | apply Kd.R_drew)); exact HO_21.out))) (Kd.R_lt (by (with_reducible repeat (first | apply Kd.R_alloc | apply Kd.R_drewN | apply Kd.R_drew)); exact HO130.out))) (below_size (by repeat (first | (with_reducible first | exact HB.out | apply below_alloc | apply pw_below_drewN | apply below_drew1) | exact HB.out)))); have n5_ := mz (below_step (by repeat (first | (with_reducible first | exact HB.out | apply below_alloc | apply pw_below_drewN | apply below_drew1) | exact HB.out)) hb); clear HO_5; clear HO_21; clear HO130; clear HO132; clear HB; have HO_5 := n0_; have HO_21 := n1_; have HO130 := n2_; have HO132 := n3_; have HO136 := n4_; have HB := n5_; clear n0_ n1_ n2_ n3_ n4_ n5_; (try clear hb); (try clear hb2); (try clear hk); (try clear hi); (try clear ho0)) | ((with_reducible refine gate_callee (f := 13) rfl ?_); refine goesL_ (some 171) rfl rfl Try.func13 (by kernel_rfl) rfl #[.slice Ao9 t101.length co9, .slice Ao63 t127.length co63, .int .i64 t102] rfl (by (try simp only [List.map_toArray, List.map_cons, List.map_nil]); first | done | rfl | (simp only [List.length_drop, List.length_take]; rfl)) ?_; (with_reducible refine (spec_BreakAt.calls kj38 _ _ t101 _ _ t127 t102 t137 t138 _ ?side1 ?side2 ?side3 ?side4 A50.out).mono ?_); (case side1 => repeat (first | exact (Kd.R_reads' HO_5.out).2.2 | (with_reducible refine Kd.C_alloc ?_ _) | (with_reducible refine Kd.C_drewN ?_ _) | (with_reducible refine Kd.C_drew ?_))); (case side2 => exact (Kd.R_reads' HO_5.out).2.1); (case side3 => repeat (first | exact (Kd.R_reads' HO132.out).2.2 | (with_reducible refine Kd.C_alloc ?_ _) | (with_reducible refine Kd.C_drewN ?_ _) | (with_reducible refine Kd.C_drew ?_))); (case side4 => exact (Kd.R_reads' HO132.out).2.1); rintro e w65 ⟨v139, rfl, ho0, hb⟩; refine ⟨_, rfl, ?_⟩; have n0_ := mz (Kd.R_elder' (by (with_reducible repeat (first | apply Kd.R_alloc | apply Kd.R_drewN | apply Kd.R_drew)); exact HO_5.out) (Kd.R_base ho0) hb); have n1_ := mz (Kd.R_elder' (by (with_reducible repeat (first | apply Kd.R_alloc | apply Kd.R_drewN | apply Kd.R_drew)); exact HO_21.out) (Kd.R_base ho0) hb); have n2_ := mz (Kd.R_elder' (by (with_reducible repeat (first | apply Kd.R_alloc | apply Kd.R_drewN | apply Kd.R_drew)); exact HO130.out) (Kd.R_base ho0) hb); have n3_ := mz (Kd.R_below (by (with_reducible repeat (first | apply Kd.R_alloc | apply Kd.R_drewN | apply Kd.R_drew)); exact HO132.out) hb); have n4_ := mz (Kd.R_elder' (by (with_reducible repeat (first | apply Kd.R_alloc | apply Kd.R_drewN | apply Kd.R_drew)); exact HO136.out) (Kd.R_base ho0) hb); have n5_ := mz (Kd.R_lower (Kd.R_new' (Kd.R_new' (Kd.R_new' (Kd.R_new' ho0 (Kd.R_lt (by (with_reducible repeat (first | apply Kd.R_alloc | apply Kd.R_drewN | apply Kd.R_drew)); exact HO_5.out))) (Kd.R_lt (by (with_reducible repeat (first | apply Kd.R_alloc | apply Kd.R_drewN | apply Kd.R_drew)); exact HO_21.out))) (Kd.R_lt (by (with_reducible repeat (first | apply Kd.R_alloc | apply Kd.R_drewN | apply Kd.R_drew)); exact HO130.out))) (Kd.R_lt (by (with_reducible repeat (first | apply Kd.R_alloc | apply Kd.R_drewN | apply Kd.R_drew)); exact HO136.out))) (below_size (by repeat (first | (with_reducible first | exact HB.out | apply below_alloc | apply pw_below_drewN | apply below_drew1) | exact HB.out)))); have n6_ := mz (below_step (by repeat (first | (with_reducible first | exact HB.out | apply below_alloc | apply pw_below_drewN | apply below_drew1) | exact HB.out)) hb); clear HO_5; clear HO_21; clear HO130; clear HO132; clear HO136; clear HB; have HO_5 := n0_; have HO_21 := n1_; have HO130 := n2_; have HO132 := n3_; have HO136 := n4_; have HO140 := n5_; have HB := n6_; clear n0_ n1_ n2_ n3_ n4_ n5_ n6_; (try clear hb); (try clear hb2); (try clear hk); (try clear hi); (try clear ho0); obtain ⟨Ao66, co66, eo66⟩ := Kd.R_slice HO136.out; subst eo66; obtain ⟨Ao67, co67, eo67⟩ := Kd.R_slice HO140.out; subst eo67) | (go_at_call 8; (with_reducible refine (laws_sameTexts.calls kj38 _ _ t133 _ _ t137 true _ ?side1 ?side2 ?side3 ?side4 A56.out).mono ?_); (case side1 => repeat (first | exact (Kd.R_reads' HO136.out).2.2 | (with_reducible refine Kd.C_alloc ?_ _) | (with_reducible refine Kd.C_drewN ?_ _) | (with_reducible refine Kd.C_drew ?_))); (case side2 => exact (Kd.R_reads' HO136.out).2.1); (case side3 => repeat (first | exact (Kd.R_reads' HO140.out).2.2 | (with_reducible refine Kd.C_alloc ?_ _) | (with_reducible refine Kd.C_drewN ?_ _) | (with_reducible refine Kd.C_drew ?_))); (case side4 => exact (Kd.R_reads' HO140.out).2.1); rintro e w' ⟨rfl, ⟨nd, rfl⟩⟩) | ((with_reducible refine gate_callee (f := 9) rfl ?_); refine goesL_ (some 186) rfl rfl Try.func9 (by kernel_rfl) rfl #[.slice Ao66 t133.length co66, .int .i64 t102] rfl (by (try simp only [List.map_toArray, List.map_cons, List.map_nil]); first | done | rfl | (simp only [List.length_drop, List.length_take]; rfl)) ?_; (with_reducible refine (impl_CostOfLines.calls kj38 _ _ t133 t102 t142 true _ ?side1 ?side2 A58.out).mono ?_); (case side1 => repeat (first | exact (Kd.R_reads' HO136.out).2.2 | (with_reducible refine Kd.C_alloc ?_ _) | (with_reducible refine Kd.C_drewN ?_ _) | (with_reducible refine Kd.C_drew ?_))); (case side2 => exact (Kd.R_reads' HO136.out).2.1); rintro e w' ⟨rfl, ⟨nd, rfl⟩⟩; refine ⟨_, rfl, ?_⟩))
                                        go_ret
                                        exact ⟨by first | rfl | (simp [errW_none, errW_some] <;> rfl) | (simp [*, errW_none, errW_some] <;> rfl), by repeat (first | (with_reducible first | exact HB.out | apply below_alloc | apply pw_below_drewN | apply below_drew1) | exact HB.out)⟩
                                      · rw [if_neg c61] at H
                                        have c61b0 : decide (t106 ≤ t142) = false := decide_eq_false c61
                                        clear c61
                                        obtain rfl := Option.some.inj H
                                        go_wp2_with (first | ((with_reducible refine gate_callee (f := 11) rfl ?_); refine goesL_ (some 156) rfl rfl Try.func11 (by kernel_rfl) rfl #[.slice A1 l1.length c1] rfl (by (try simp only [List.map_toArray, List.map_cons, List.map_nil]); first | done | rfl | (simp only [List.length_drop, List.length_take]; rfl)) ?_; (with_reducible refine (spec_DrawBreakAt.calls kj38 _ _ l1 t126 t127 t128 _ ?side1 ?side2 A48.out).mono ?_); (case side1 => repeat (first | exact (Kd.C_below HR1.out HB.out) | (with_reducible refine Kd.C_alloc ?_ _) | (with_reducible refine Kd.C_drewN ?_ _) | (with_reducible refine Kd.C_drew ?_))); (case side2 => exact HC1.out); rintro e w68 ⟨v129, v131, rfl, ho0, ho1, hb⟩; refine ⟨_, rfl, ?_⟩; have n0_ := mz (Kd.R_elder' (by (with_reducible repeat (first | apply Kd.R_alloc | apply Kd.R_drewN | apply Kd.R_drew)); exact HO_5.out) (Kd.R_base ho0) hb); have n1_ := mz (Kd.R_elder' (by (with_reducible repeat (first | apply Kd.R_alloc | apply Kd.R_drewN | apply Kd.R_drew)); exact HO_21.out) (Kd.R_base ho0) hb); have n2_ := mz (Kd.R_lower (Kd.R_new' (Kd.R_new' ho0 (Kd.R_lt (by (with_reducible repeat (first | apply Kd.R_alloc | apply Kd.R_drewN | apply Kd.R_drew)); exact HO_5.out))) (Kd.R_lt (by (with_reducible repeat (first | apply Kd.R_alloc | apply Kd.R_drewN | apply Kd.R_drew)); exact HO_21.out))) (below_size (by repeat (first | (with_reducible first | exact HB.out | apply below_alloc | apply pw_below_drewN | apply below_drew1) | exact HB.out)))); have n3_ := mz (Kd.R_lower ho1 (below_size (by repeat (first | (with_reducible first | exact HB.out | apply below_alloc | apply pw_below_drewN | apply below_drew1) | exact HB.out)))); have n4_ := mz (below_step (by repeat (first | (with_reducible first | exact HB.out | apply below_alloc | apply pw_below_drewN | apply below_drew1) | exact HB.out)) hb); clear HO_5; clear HO_21; clear HB; have HO_5 := n0_; have HO_21 := n1_; have HO130 := n2_; have HO132 := n3_; have HB := n4_; clear n0_ n1_ n2_ n3_ n4_; (try clear hb); (try clear hb2); (try clear hk); (try clear hi); (try clear ho0); (try clear ho1); obtain ⟨Ao69, co69, eo69⟩ := Kd.R_slice HO132.out; subst eo69) | ((with_reducible refine gate_callee (f := 12) rfl ?_); refine goesL_ (some 164) rfl rfl Try.func12 (by kernel_rfl) rfl #[.slice Ao9 t101.length co9, .slice Ao69 t127.length co69, .int .i64 t102] rfl (by (try simp only [List.map_toArray, List.map_cons, List.map_nil]); first | done | rfl | (simp only [List.length_drop, List.length_take]; rfl)) ?_; (with_reducible refine (impl_BreakAt.calls _ _ t101 _ _ t127 t102 t133 true _ ?side1 ?side2 ?side3 ?side4 A49.out).mono ?_); (case side1 => repeat (first | exact (Kd.R_reads' HO_5.out).2.2 | (with_reducible refine Kd.C_alloc ?_ _) | (with_reducible refine Kd.C_drewN ?_ _) | (with_reducible refine Kd.C_drew ?_))); (case side2 => exact (Kd.R_reads' HO_5.out).2.1); (case side3 => repeat (first | exact (Kd.R_reads' HO132.out).2.2 | (with_reducible refine Kd.C_alloc ?_ _) | (with_reducible refine Kd.C_drewN ?_ _) | (with_reducible refine Kd.C_drew ?_))); (case side4 => exact (Kd.R_reads' HO132.out).2.1); rintro e w70 ⟨v135, rfl, ho0, hb⟩; refine ⟨_, rfl, ?_⟩; have n0_ := mz (Kd.R_elder' (by (with_reducible repeat (first | apply Kd.R_alloc | apply Kd.R_drewN | apply Kd.R_drew)); exact HO_5.out) (Kd.R_base ho0) hb); have n1_ := mz (Kd.R_elder' (by (with_reducible repeat (first | apply Kd.R_alloc | apply Kd.R_drewN | apply Kd.R_drew)); exact HO_21.out) (Kd.R_base ho0) hb); have n2_ := mz (Kd.R_elder' (by (with_reducible repeat (first | apply Kd.R_alloc | apply Kd.R_drewN | apply Kd.R_drew)); exact HO130.out) (Kd.R_base ho0) hb); have n3_ := mz (Kd.R_below (by (with_reducible repeat (first | apply Kd.R_alloc | apply Kd.R_drewN | apply Kd.R_drew)); exact HO132.out) hb); have n4_ := mz (Kd.R_lower (Kd.R_new' (Kd.R_new' (Kd.R_new' ho0 (Kd.R_lt (by (with_reducible repeat (first | apply Kd.R_alloc | apply Kd.R_drewN | apply Kd.R_drew)); exact HO_5.out))) (Kd.R_lt (by (with_reducible repeat (first | apply Kd.R_alloc | apply Kd.R_drewN | apply Kd.R_drew)); exact HO_21.out))) (Kd.R_lt (by (with_reducible repeat (first | apply Kd.R_alloc | apply Kd.R_drewN | apply Kd.R_drew)); exact HO130.out))) (below_size (by repeat (first | (with_reducible first | exact HB.out | apply below_alloc | apply pw_below_drewN | apply below_drew1) | exact HB.out)))); have n5_ := mz (below_step (by repeat (first | (with_reducible first | exact HB.out | apply below_alloc | apply pw_below_drewN | apply below_drew1) | exact HB.out)) hb); clear HO_5; clear HO_21; clear HO130; clear HO132; clear HB; have HO_5 := n0_; have HO_21 := n1_; have HO130 := n2_; have HO132 := n3_; have HO136 := n4_; have HB := n5_; clear n0_ n1_ n2_ n3_ n4_ n5_; (try clear hb); (try clear hb2); (try clear hk); (try clear hi); (try clear ho0)) | ((with_reducible refine gate_callee (f := 13) rfl ?_); refine goesL_ (some 171) rfl rfl Try.func13 (by kernel_rfl) rfl #[.slice Ao9 t101.length co9, .slice Ao69 t127.length co69, .int .i64 t102] rfl (by (try simp only [List.map_toArray, List.map_cons, List.map_nil]); first | done | rfl | (simp only [List.length_drop, List.length_take]; rfl)) ?_; (with_reducible refine (spec_BreakAt.calls kj38 _ _ t101 _ _ t127 t102 t137 t138 _ ?side1 ?side2 ?side3 ?side4 A50.out).mono ?_); (case side1 => repeat (first | exact (Kd.R_reads' HO_5.out).2.2 | (with_reducible refine Kd.C_alloc ?_ _) | (with_reducible refine Kd.C_drewN ?_ _) | (with_reducible refine Kd.C_drew ?_))); (case side2 => exact (Kd.R_reads' HO_5.out).2.1); (case side3 => repeat (first | exact (Kd.R_reads' HO132.out).2.2 | (with_reducible refine Kd.C_alloc ?_ _) | (with_reducible refine Kd.C_drewN ?_ _) | (with_reducible refine Kd.C_drew ?_))); (case side4 => exact (Kd.R_reads' HO132.out).2.1); rintro e w71 ⟨v139, rfl, ho0, hb⟩; refine ⟨_, rfl, ?_⟩; have n0_ := mz (Kd.R_elder' (by (with_reducible repeat (first | apply Kd.R_alloc | apply Kd.R_drewN | apply Kd.R_drew)); exact HO_5.out) (Kd.R_base ho0) hb); have n1_ := mz (Kd.R_elder' (by (with_reducible repeat (first | apply Kd.R_alloc | apply Kd.R_drewN | apply Kd.R_drew)); exact HO_21.out) (Kd.R_base ho0) hb); have n2_ := mz (Kd.R_elder' (by (with_reducible repeat (first | apply Kd.R_alloc | apply Kd.R_drewN | apply Kd.R_drew)); exact HO130.out) (Kd.R_base ho0) hb); have n3_ := mz (Kd.R_below (by (with_reducible repeat (first | apply Kd.R_alloc | apply Kd.R_drewN | apply Kd.R_drew)); exact HO132.out) hb); have n4_ := mz (Kd.R_elder' (by (with_reducible repeat (first | apply Kd.R_alloc | apply Kd.R_drewN | apply Kd.R_drew)); exact HO136.out) (Kd.R_base ho0) hb); have n5_ := mz (Kd.R_lower (Kd.R_new' (Kd.R_new' (Kd.R_new' (Kd.R_new' ho0 (Kd.R_lt (by (with_reducible repeat (first | apply Kd.R_alloc | apply Kd.R_drewN | apply Kd.R_drew)); exact HO_5.out))) (Kd.R_lt (by (with_reducible repeat (first | apply Kd.R_alloc | apply Kd.R_drewN | apply Kd.R_drew)); exact HO_21.out))) (Kd.R_lt (by (with_reducible repeat (first | apply Kd.R_alloc | apply Kd.R_drewN | apply Kd.R_drew)); exact HO130.out))) (Kd.R_lt (by (with_reducible repeat (first | apply Kd.R_alloc | apply Kd.R_drewN | apply Kd.R_drew)); exact HO136.out))) (below_size (by repeat (first | (with_reducible first | exact HB.out | apply below_alloc | apply pw_below_drewN | apply below_drew1) | exact HB.out)))); have n6_ := mz (below_step (by repeat (first | (with_reducible first | exact HB.out | apply below_alloc | apply pw_below_drewN | apply below_drew1) | exact HB.out)) hb); clear HO_5; clear HO_21; clear HO130; clear HO132; clear HO136; clear HB; have HO_5 := n0_; have HO_21 := n1_; have HO130 := n2_; have HO132 := n3_; have HO136 := n4_; have HO140 := n5_; have HB := n6_; clear n0_ n1_ n2_ n3_ n4_ n5_ n6_; (try clear hb); (try clear hb2); (try clear hk); (try clear hi); (try clear ho0); obtain ⟨Ao72, co72, eo72⟩ := Kd.R_slice HO136.out; subst eo72; obtain ⟨Ao73, co73, eo73⟩ := Kd.R_slice HO140.out; subst eo73) | (go_at_call 8; (with_reducible refine (laws_sameTexts.calls kj38 _ _ t133 _ _ t137 true _ ?side1 ?side2 ?side3 ?side4 A56.out).mono ?_); (case side1 => repeat (first | exact (Kd.R_reads' HO136.out).2.2 | (with_reducible refine Kd.C_alloc ?_ _) | (with_reducible refine Kd.C_drewN ?_ _) | (with_reducible refine Kd.C_drew ?_))); (case side2 => exact (Kd.R_reads' HO136.out).2.1); (case side3 => repeat (first | exact (Kd.R_reads' HO140.out).2.2 | (with_reducible refine Kd.C_alloc ?_ _) | (with_reducible refine Kd.C_drewN ?_ _) | (with_reducible refine Kd.C_drew ?_))); (case side4 => exact (Kd.R_reads' HO140.out).2.1); rintro e w' ⟨rfl, ⟨nd, rfl⟩⟩) | ((with_reducible refine gate_callee (f := 9) rfl ?_); refine goesL_ (some 186) rfl rfl Try.func9 (by kernel_rfl) rfl #[.slice Ao72 t133.length co72, .int .i64 t102] rfl (by (try simp only [List.map_toArray, List.map_cons, List.map_nil]); first | done | rfl | (simp only [List.length_drop, List.length_take]; rfl)) ?_; (with_reducible refine (impl_CostOfLines.calls kj38 _ _ t133 t102 t142 true _ ?side1 ?side2 A58.out).mono ?_); (case side1 => repeat (first | exact (Kd.R_reads' HO136.out).2.2 | (with_reducible refine Kd.C_alloc ?_ _) | (with_reducible refine Kd.C_drewN ?_ _) | (with_reducible refine Kd.C_drew ?_))); (case side2 => exact (Kd.R_reads' HO136.out).2.1); rintro e w' ⟨rfl, ⟨nd, rfl⟩⟩; refine ⟨_, rfl, ?_⟩))
                                        go_ret
                                        exact ⟨by first | rfl | (simp [errW_none, errW_some] <;> rfl) | (simp [*, errW_none, errW_some] <;> rfl), by repeat (first | (with_reducible first | exact HB.out | apply below_alloc | apply pw_below_drewN | apply below_drew1) | exact HB.out)⟩
                                    · replace c60 := Bool.eq_false_iff.mpr c60
                                      subst c60
                                      have H1 : (some false) = some r := by rw [if_neg (show ¬ (false = true) by decide)] at H; exact H
                                      clear H
                                      have H := H1
                                      clear H1
                                      obtain rfl := Option.some.inj H
                                      go_wp2_with (first | ((with_reducible refine gate_callee (f := 11) rfl ?_); refine goesL_ (some 156) rfl rfl Try.func11 (by kernel_rfl) rfl #[.slice A1 l1.length c1] rfl (by (try simp only [List.map_toArray, List.map_cons, List.map_nil]); first | done | rfl | (simp only [List.length_drop, List.length_take]; rfl)) ?_; (with_reducible refine (spec_DrawBreakAt.calls kj38 _ _ l1 t126 t127 t128 _ ?side1 ?side2 A48.out).mono ?_); (case side1 => repeat (first | exact (Kd.C_below HR1.out HB.out) | (with_reducible refine Kd.C_alloc ?_ _) | (with_reducible refine Kd.C_drewN ?_ _) | (with_reducible refine Kd.C_drew ?_))); (case side2 => exact HC1.out); rintro e w74 ⟨v129, v131, rfl, ho0, ho1, hb⟩; refine ⟨_, rfl, ?_⟩; have n0_ := mz (Kd.R_elder' (by (with_reducible repeat (first | apply Kd.R_alloc | apply Kd.R_drewN | apply Kd.R_drew)); exact HO_5.out) (Kd.R_base ho0) hb); have n1_ := mz (Kd.R_elder' (by (with_reducible repeat (first | apply Kd.R_alloc | apply Kd.R_drewN | apply Kd.R_drew)); exact HO_21.out) (Kd.R_base ho0) hb); have n2_ := mz (Kd.R_lower (Kd.R_new' (Kd.R_new' ho0 (Kd.R_lt (by (with_reducible repeat (first | apply Kd.R_alloc | apply Kd.R_drewN | apply Kd.R_drew)); exact HO_5.out))) (Kd.R_lt (by (with_reducible repeat (first | apply Kd.R_alloc | apply Kd.R_drewN | apply Kd.R_drew)); exact HO_21.out))) (below_size (by repeat (first | (with_reducible first | exact HB.out | apply below_alloc | apply pw_below_drewN | apply below_drew1) | exact HB.out)))); have n3_ := mz (Kd.R_lower ho1 (below_size (by repeat (first | (with_reducible first | exact HB.out | apply below_alloc | apply pw_below_drewN | apply below_drew1) | exact HB.out)))); have n4_ := mz (below_step (by repeat (first | (with_reducible first | exact HB.out | apply below_alloc | apply pw_below_drewN | apply below_drew1) | exact HB.out)) hb); clear HO_5; clear HO_21; clear HB; have HO_5 := n0_; have HO_21 := n1_; have HO130 := n2_; have HO132 := n3_; have HB := n4_; clear n0_ n1_ n2_ n3_ n4_; (try clear hb); (try clear hb2); (try clear hk); (try clear hi); (try clear ho0); (try clear ho1); obtain ⟨Ao75, co75, eo75⟩ := Kd.R_slice HO132.out; subst eo75) | ((with_reducible refine gate_callee (f := 12) rfl ?_); refine goesL_ (some 164) rfl rfl Try.func12 (by kernel_rfl) rfl #[.slice Ao9 t101.length co9, .slice Ao75 t127.length co75, .int .i64 t102] rfl (by (try simp only [List.map_toArray, List.map_cons, List.map_nil]); first | done | rfl | (simp only [List.length_drop, List.length_take]; rfl)) ?_; (with_reducible refine (impl_BreakAt.calls _ _ t101 _ _ t127 t102 t133 true _ ?side1 ?side2 ?side3 ?side4 A49.out).mono ?_); (case side1 => repeat (first | exact (Kd.R_reads' HO_5.out).2.2 | (with_reducible refine Kd.C_alloc ?_ _) | (with_reducible refine Kd.C_drewN ?_ _) | (with_reducible refine Kd.C_drew ?_))); (case side2 => exact (Kd.R_reads' HO_5.out).2.1); (case side3 => repeat (first | exact (Kd.R_reads' HO132.out).2.2 | (with_reducible refine Kd.C_alloc ?_ _) | (with_reducible refine Kd.C_drewN ?_ _) | (with_reducible refine Kd.C_drew ?_))); (case side4 => exact (Kd.R_reads' HO132.out).2.1); rintro e w76 ⟨v135, rfl, ho0, hb⟩; refine ⟨_, rfl, ?_⟩; have n0_ := mz (Kd.R_elder' (by (with_reducible repeat (first | apply Kd.R_alloc | apply Kd.R_drewN | apply Kd.R_drew)); exact HO_5.out) (Kd.R_base ho0) hb); have n1_ := mz (Kd.R_elder' (by (with_reducible repeat (first | apply Kd.R_alloc | apply Kd.R_drewN | apply Kd.R_drew)); exact HO_21.out) (Kd.R_base ho0) hb); have n2_ := mz (Kd.R_elder' (by (with_reducible repeat (first | apply Kd.R_alloc | apply Kd.R_drewN | apply Kd.R_drew)); exact HO130.out) (Kd.R_base ho0) hb); have n3_ := mz (Kd.R_below (by (with_reducible repeat (first | apply Kd.R_alloc | apply Kd.R_drewN | apply Kd.R_drew)); exact HO132.out) hb); have n4_ := mz (Kd.R_lower (Kd.R_new' (Kd.R_new' (Kd.R_new' ho0 (Kd.R_lt (by (with_reducible repeat (first | apply Kd.R_alloc | apply Kd.R_drewN | apply Kd.R_drew)); exact HO_5.out))) (Kd.R_lt (by (with_reducible repeat (first | apply Kd.R_alloc | apply Kd.R_drewN | apply Kd.R_drew)); exact HO_21.out))) (Kd.R_lt (by (with_reducible repeat (first | apply Kd.R_alloc | apply Kd.R_drewN | apply Kd.R_drew)); exact HO130.out))) (below_size (by repeat (first | (with_reducible first | exact HB.out | apply below_alloc | apply pw_below_drewN | apply below_drew1) | exact HB.out)))); have n5_ := mz (below_step (by repeat (first | (with_reducible first | exact HB.out | apply below_alloc | apply pw_below_drewN | apply below_drew1) | exact HB.out)) hb); clear HO_5; clear HO_21; clear HO130; clear HO132; clear HB; have HO_5 := n0_; have HO_21 := n1_; have HO130 := n2_; have HO132 := n3_; have HO136 := n4_; have HB := n5_; clear n0_ n1_ n2_ n3_ n4_ n5_; (try clear hb); (try clear hb2); (try clear hk); (try clear hi); (try clear ho0)) | ((with_reducible refine gate_callee (f := 13) rfl ?_); refine goesL_ (some 171) rfl rfl Try.func13 (by kernel_rfl) rfl #[.slice Ao9 t101.length co9, .slice Ao75 t127.length co75, .int .i64 t102] rfl (by (try simp only [List.map_toArray, List.map_cons, List.map_nil]); first | done | rfl | (simp only [List.length_drop, List.length_take]; rfl)) ?_; (with_reducible refine (spec_BreakAt.calls kj38 _ _ t101 _ _ t127 t102 t137 t138 _ ?side1 ?side2 ?side3 ?side4 A50.out).mono ?_); (case side1 => repeat (first | exact (Kd.R_reads' HO_5.out).2.2 | (with_reducible refine Kd.C_alloc ?_ _) | (with_reducible refine Kd.C_drewN ?_ _) | (with_reducible refine Kd.C_drew ?_))); (case side2 => exact (Kd.R_reads' HO_5.out).2.1); (case side3 => repeat (first | exact (Kd.R_reads' HO132.out).2.2 | (with_reducible refine Kd.C_alloc ?_ _) | (with_reducible refine Kd.C_drewN ?_ _) | (with_reducible refine Kd.C_drew ?_))); (case side4 => exact (Kd.R_reads' HO132.out).2.1); rintro e w77 ⟨v139, rfl, ho0, hb⟩; refine ⟨_, rfl, ?_⟩; have n0_ := mz (Kd.R_elder' (by (with_reducible repeat (first | apply Kd.R_alloc | apply Kd.R_drewN | apply Kd.R_drew)); exact HO_5.out) (Kd.R_base ho0) hb); have n1_ := mz (Kd.R_elder' (by (with_reducible repeat (first | apply Kd.R_alloc | apply Kd.R_drewN | apply Kd.R_drew)); exact HO_21.out) (Kd.R_base ho0) hb); have n2_ := mz (Kd.R_elder' (by (with_reducible repeat (first | apply Kd.R_alloc | apply Kd.R_drewN | apply Kd.R_drew)); exact HO130.out) (Kd.R_base ho0) hb); have n3_ := mz (Kd.R_below (by (with_reducible repeat (first | apply Kd.R_alloc | apply Kd.R_drewN | apply Kd.R_drew)); exact HO132.out) hb); have n4_ := mz (Kd.R_elder' (by (with_reducible repeat (first | apply Kd.R_alloc | apply Kd.R_drewN | apply Kd.R_drew)); exact HO136.out) (Kd.R_base ho0) hb); have n5_ := mz (Kd.R_lower (Kd.R_new' (Kd.R_new' (Kd.R_new' (Kd.R_new' ho0 (Kd.R_lt (by (with_reducible repeat (first | apply Kd.R_alloc | apply Kd.R_drewN | apply Kd.R_drew)); exact HO_5.out))) (Kd.R_lt (by (with_reducible repeat (first | apply Kd.R_alloc | apply Kd.R_drewN | apply Kd.R_drew)); exact HO_21.out))) (Kd.R_lt (by (with_reducible repeat (first | apply Kd.R_alloc | apply Kd.R_drewN | apply Kd.R_drew)); exact HO130.out))) (Kd.R_lt (by (with_reducible repeat (first | apply Kd.R_alloc | apply Kd.R_drewN | apply Kd.R_drew)); exact HO136.out))) (below_size (by repeat (first | (with_reducible first | exact HB.out | apply below_alloc | apply pw_below_drewN | apply below_drew1) | exact HB.out)))); have n6_ := mz (below_step (by repeat (first | (with_reducible first | exact HB.out | apply below_alloc | apply pw_below_drewN | apply below_drew1) | exact HB.out)) hb); clear HO_5; clear HO_21; clear HO130; clear HO132; clear HO136; clear HB; have HO_5 := n0_; have HO_21 := n1_; have HO130 := n2_; have HO132 := n3_; have HO136 := n4_; have HO140 := n5_; have HB := n6_; clear n0_ n1_ n2_ n3_ n4_ n5_ n6_; (try clear hb); (try clear hb2); (try clear hk); (try clear hi); (try clear ho0); obtain ⟨Ao78, co78, eo78⟩ := Kd.R_slice HO136.out; subst eo78; obtain ⟨Ao79, co79, eo79⟩ := Kd.R_slice HO140.out; subst eo79) | (go_at_call 8; (with_reducible refine (laws_sameTexts.calls kj38 _ _ t133 _ _ t137 true _ ?side1 ?side2 ?side3 ?side4 A56.out).mono ?_); (case side1 => repeat (first | exact (Kd.R_reads' HO136.out).2.2 | (with_reducible refine Kd.C_alloc ?_ _) | (with_reducible refine Kd.C_drewN ?_ _) | (with_reducible refine Kd.C_drew ?_))); (case side2 => exact (Kd.R_reads' HO136.out).2.1); (case side3 => repeat (first | exact (Kd.R_reads' HO140.out).2.2 | (with_reducible refine Kd.C_alloc ?_ _) | (with_reducible refine Kd.C_drewN ?_ _) | (with_reducible refine Kd.C_drew ?_))); (case side4 => exact (Kd.R_reads' HO140.out).2.1); rintro e w' ⟨rfl, ⟨nd, rfl⟩⟩) | ((with_reducible refine gate_callee (f := 9) rfl ?_); refine goesL_ (some 186) rfl rfl Try.func9 (by kernel_rfl) rfl #[.slice Ao78 t133.length co78, .int .i64 t102] rfl (by (try simp only [List.map_toArray, List.map_cons, List.map_nil]); first | done | rfl | (simp only [List.length_drop, List.length_take]; rfl)) ?_; (with_reducible refine (impl_CostOfLines.calls kj38 _ _ t133 t102 t142 false _ ?side1 ?side2 A58.out).mono ?_); (case side1 => repeat (first | exact (Kd.R_reads' HO136.out).2.2 | (with_reducible refine Kd.C_alloc ?_ _) | (with_reducible refine Kd.C_drewN ?_ _) | (with_reducible refine Kd.C_drew ?_))); (case side2 => exact (Kd.R_reads' HO136.out).2.1); rintro e w' ⟨rfl, ⟨nd, rfl⟩⟩; refine ⟨_, rfl, ?_⟩))
                                      go_ret
                                      exact ⟨by first | rfl | (simp [errW_none, errW_some] <;> rfl) | (simp [*, errW_none, errW_some] <;> rfl), by repeat (first | (with_reducible first | exact HB.out | apply below_alloc | apply pw_below_drewN | apply below_drew1) | exact HB.out)⟩
                                  · replace c59 := Bool.eq_false_iff.mpr c59
                                    subst c59
                                    have H1 : (some true) = some r := by rw [if_neg (show ¬ (false = true) by decide)] at H; exact H
                                    clear H
                                    have H := H1
                                    clear H1
                                    obtain rfl := Option.some.inj H
                                    go_wp2_with (first | ((with_reducible refine gate_callee (f := 11) rfl ?_); refine goesL_ (some 156) rfl rfl Try.func11 (by kernel_rfl) rfl #[.slice A1 l1.length c1] rfl (by (try simp only [List.map_toArray, List.map_cons, List.map_nil]); first | done | rfl | (simp only [List.length_drop, List.length_take]; rfl)) ?_; (with_reducible refine (spec_DrawBreakAt.calls kj38 _ _ l1 t126 t127 t128 _ ?side1 ?side2 A48.out).mono ?_); (case side1 => repeat (first | exact (Kd.C_below HR1.out HB.out) | (with_reducible refine Kd.C_alloc ?_ _) | (with_reducible refine Kd.C_drewN ?_ _) | (with_reducible refine Kd.C_drew ?_))); (case side2 => exact HC1.out); rintro e w80 ⟨v129, v131, rfl, ho0, ho1, hb⟩; refine ⟨_, rfl, ?_⟩; have n0_ := mz (Kd.R_elder' (by (with_reducible repeat (first | apply Kd.R_alloc | apply Kd.R_drewN | apply Kd.R_drew)); exact HO_5.out) (Kd.R_base ho0) hb); have n1_ := mz (Kd.R_elder' (by (with_reducible repeat (first | apply Kd.R_alloc | apply Kd.R_drewN | apply Kd.R_drew)); exact HO_21.out) (Kd.R_base ho0) hb); have n2_ := mz (Kd.R_lower (Kd.R_new' (Kd.R_new' ho0 (Kd.R_lt (by (with_reducible repeat (first | apply Kd.R_alloc | apply Kd.R_drewN | apply Kd.R_drew)); exact HO_5.out))) (Kd.R_lt (by (with_reducible repeat (first | apply Kd.R_alloc | apply Kd.R_drewN | apply Kd.R_drew)); exact HO_21.out))) (below_size (by repeat (first | (with_reducible first | exact HB.out | apply below_alloc | apply pw_below_drewN | apply below_drew1) | exact HB.out)))); have n3_ := mz (Kd.R_lower ho1 (below_size (by repeat (first | (with_reducible first | exact HB.out | apply below_alloc | apply pw_below_drewN | apply below_drew1) | exact HB.out)))); have n4_ := mz (below_step (by repeat (first | (with_reducible first | exact HB.out | apply below_alloc | apply pw_below_drewN | apply below_drew1) | exact HB.out)) hb); clear HO_5; clear HO_21; clear HB; have HO_5 := n0_; have HO_21 := n1_; have HO130 := n2_; have HO132 := n3_; have HB := n4_; clear n0_ n1_ n2_ n3_ n4_; (try clear hb); (try clear hb2); (try clear hk); (try clear hi); (try clear ho0); (try clear ho1); obtain ⟨Ao81, co81, eo81⟩ := Kd.R_slice HO132.out; subst eo81) | ((with_reducible refine gate_callee (f := 12) rfl ?_); refine goesL_ (some 164) rfl rfl Try.func12 (by kernel_rfl) rfl #[.slice Ao9 t101.length co9, .slice Ao81 t127.length co81, .int .i64 t102] rfl (by (try simp only [List.map_toArray, List.map_cons, List.map_nil]); first | done | rfl | (simp only [List.length_drop, List.length_take]; rfl)) ?_; (with_reducible refine (impl_BreakAt.calls _ _ t101 _ _ t127 t102 t133 false _ ?side1 ?side2 ?side3 ?side4 A49.out).mono ?_); (case side1 => repeat (first | exact (Kd.R_reads' HO_5.out).2.2 | (with_reducible refine Kd.C_alloc ?_ _) | (with_reducible refine Kd.C_drewN ?_ _) | (with_reducible refine Kd.C_drew ?_))); (case side2 => exact (Kd.R_reads' HO_5.out).2.1); (case side3 => repeat (first | exact (Kd.R_reads' HO132.out).2.2 | (with_reducible refine Kd.C_alloc ?_ _) | (with_reducible refine Kd.C_drewN ?_ _) | (with_reducible refine Kd.C_drew ?_))); (case side4 => exact (Kd.R_reads' HO132.out).2.1); rintro e w82 ⟨v135, rfl, ho0, hb⟩; refine ⟨_, rfl, ?_⟩; have n0_ := mz (Kd.R_elder' (by (with_reducible repeat (first | apply Kd.R_alloc | apply Kd.R_drewN | apply Kd.R_drew)); exact HO_5.out) (Kd.R_base ho0) hb); have n1_ := mz (Kd.R_elder' (by (with_reducible repeat (first | apply Kd.R_alloc | apply Kd.R_drewN | apply Kd.R_drew)); exact HO_21.out) (Kd.R_base ho0) hb); have n2_ := mz (Kd.R_elder' (by (with_reducible repeat (first | apply Kd.R_alloc | apply Kd.R_drewN | apply Kd.R_drew)); exact HO130.out) (Kd.R_base ho0) hb); have n3_ := mz (Kd.R_below (by (with_reducible repeat (first | apply Kd.R_alloc | apply Kd.R_drewN | apply Kd.R_drew)); exact HO132.out) hb); have n4_ := mz (Kd.R_lower (Kd.R_new' (Kd.R_new' (Kd.R_new' ho0 (Kd.R_lt (by (with_reducible repeat (first | apply Kd.R_alloc | apply Kd.R_drewN | apply Kd.R_drew)); exact HO_5.out))) (Kd.R_lt (by (with_reducible repeat (first | apply Kd.R_alloc | apply Kd.R_drewN | apply Kd.R_drew)); exact HO_21.out))) (Kd.R_lt (by (with_reducible repeat (first | apply Kd.R_alloc | apply Kd.R_drewN | apply Kd.R_drew)); exact HO130.out))) (below_size (by repeat (first | (with_reducible first | exact HB.out | apply below_alloc | apply pw_below_drewN | apply below_drew1) | exact HB.out)))); have n5_ := mz (below_step (by repeat (first | (with_reducible first | exact HB.out | apply below_alloc | apply pw_below_drewN | apply below_drew1) | exact HB.out)) hb); clear HO_5; clear HO_21; clear HO130; clear HO132; clear HB; have HO_5 := n0_; have HO_21 := n1_; have HO130 := n2_; have HO132 := n3_; have HO136 := n4_; have HB := n5_; clear n0_ n1_ n2_ n3_ n4_ n5_; (try clear hb); (try clear hb2); (try clear hk); (try clear hi); (try clear ho0)) | ((with_reducible refine gate_callee (f := 13) rfl ?_); refine goesL_ (some 171) rfl rfl Try.func13 (by kernel_rfl) rfl #[.slice Ao9 t101.length co9, .slice Ao81 t127.length co81, .int .i64 t102] rfl (by (try simp only [List.map_toArray, List.map_cons, List.map_nil]); first | done | rfl | (simp only [List.length_drop, List.length_take]; rfl)) ?_; (with_reducible refine (spec_BreakAt.calls kj38 _ _ t101 _ _ t127 t102 t137 t138 _ ?side1 ?side2 ?side3 ?side4 A50.out).mono ?_); (case side1 => repeat (first | exact (Kd.R_reads' HO_5.out).2.2 | (with_reducible refine Kd.C_alloc ?_ _) | (with_reducible refine Kd.C_drewN ?_ _) | (with_reducible refine Kd.C_drew ?_))); (case side2 => exact (Kd.R_reads' HO_5.out).2.1); (case side3 => repeat (first | exact (Kd.R_reads' HO132.out).2.2 | (with_reducible refine Kd.C_alloc ?_ _) | (with_reducible refine Kd.C_drewN ?_ _) | (with_reducible refine Kd.C_drew ?_))); (case side4 => exact (Kd.R_reads' HO132.out).2.1); rintro e w83 ⟨v139, rfl, ho0, hb⟩; refine ⟨_, rfl, ?_⟩; have n0_ := mz (Kd.R_elder' (by (with_reducible repeat (first | apply Kd.R_alloc | apply Kd.R_drewN | apply Kd.R_drew)); exact HO_5.out) (Kd.R_base ho0) hb); have n1_ := mz (Kd.R_elder' (by (with_reducible repeat (first | apply Kd.R_alloc | apply Kd.R_drewN | apply Kd.R_drew)); exact HO_21.out) (Kd.R_base ho0) hb); have n2_ := mz (Kd.R_elder' (by (with_reducible repeat (first | apply Kd.R_alloc | apply Kd.R_drewN | apply Kd.R_drew)); exact HO130.out) (Kd.R_base ho0) hb); have n3_ := mz (Kd.R_below (by (with_reducible repeat (first | apply Kd.R_alloc | apply Kd.R_drewN | apply Kd.R_drew)); exact HO132.out) hb); have n4_ := mz (Kd.R_elder' (by (with_reducible repeat (first | apply Kd.R_alloc | apply Kd.R_drewN | apply Kd.R_drew)); exact HO136.out) (Kd.R_base ho0) hb); have n5_ := mz (Kd.R_lower (Kd.R_new' (Kd.R_new' (Kd.R_new' (Kd.R_new' ho0 (Kd.R_lt (by (with_reducible repeat (first | apply Kd.R_alloc | apply Kd.R_drewN | apply Kd.R_drew)); exact HO_5.out))) (Kd.R_lt (by (with_reducible repeat (first | apply Kd.R_alloc | apply Kd.R_drewN | apply Kd.R_drew)); exact HO_21.out))) (Kd.R_lt (by (with_reducible repeat (first | apply Kd.R_alloc | apply Kd.R_drewN | apply Kd.R_drew)); exact HO130.out))) (Kd.R_lt (by (with_reducible repeat (first | apply Kd.R_alloc | apply Kd.R_drewN | apply Kd.R_drew)); exact HO136.out))) (below_size (by repeat (first | (with_reducible first | exact HB.out | apply below_alloc | apply pw_below_drewN | apply below_drew1) | exact HB.out)))); have n6_ := mz (below_step (by repeat (first | (with_reducible first | exact HB.out | apply below_alloc | apply pw_below_drewN | apply below_drew1) | exact HB.out)) hb); clear HO_5; clear HO_21; clear HO130; clear HO132; clear HO136; clear HB; have HO_5 := n0_; have HO_21 := n1_; have HO130 := n2_; have HO132 := n3_; have HO136 := n4_; have HO140 := n5_; have HB := n6_; clear n0_ n1_ n2_ n3_ n4_ n5_ n6_; (try clear hb); (try clear hb2); (try clear hk); (try clear hi); (try clear ho0); obtain ⟨Ao84, co84, eo84⟩ := Kd.R_slice HO136.out; subst eo84; obtain ⟨Ao85, co85, eo85⟩ := Kd.R_slice HO140.out; subst eo85) | (go_at_call 8; (with_reducible refine (laws_sameTexts.calls kj38 _ _ t133 _ _ t137 true _ ?side1 ?side2 ?side3 ?side4 A56.out).mono ?_); (case side1 => repeat (first | exact (Kd.R_reads' HO136.out).2.2 | (with_reducible refine Kd.C_alloc ?_ _) | (with_reducible refine Kd.C_drewN ?_ _) | (with_reducible refine Kd.C_drew ?_))); (case side2 => exact (Kd.R_reads' HO136.out).2.1); (case side3 => repeat (first | exact (Kd.R_reads' HO140.out).2.2 | (with_reducible refine Kd.C_alloc ?_ _) | (with_reducible refine Kd.C_drewN ?_ _) | (with_reducible refine Kd.C_drew ?_))); (case side4 => exact (Kd.R_reads' HO140.out).2.1); rintro e w' ⟨rfl, ⟨nd, rfl⟩⟩) | ((with_reducible refine gate_callee (f := 9) rfl ?_); refine goesL_ (some 186) rfl rfl Try.func9 (by kernel_rfl) rfl #[.slice Ao84 t133.length co84, .int .i64 t102] rfl (by (try simp only [List.map_toArray, List.map_cons, List.map_nil]); first | done | rfl | (simp only [List.length_drop, List.length_take]; rfl)) ?_; (with_reducible refine (impl_CostOfLines.calls kj38 _ _ t133 t102 t142 t143 _ ?side1 ?side2 A58.out).mono ?_); (case side1 => repeat (first | exact (Kd.R_reads' HO136.out).2.2 | (with_reducible refine Kd.C_alloc ?_ _) | (with_reducible refine Kd.C_drewN ?_ _) | (with_reducible refine Kd.C_drew ?_))); (case side2 => exact (Kd.R_reads' HO136.out).2.1); rintro e w' ⟨rfl, ⟨nd, rfl⟩⟩; refine ⟨_, rfl, ?_⟩))
                                    go_ret
                                    exact ⟨by first | rfl | (simp [errW_none, errW_some] <;> rfl) | (simp [*, errW_none, errW_some] <;> rfl), by repeat (first | (with_reducible first | exact HB.out | apply below_alloc | apply pw_below_drewN | apply below_drew1) | exact HB.out)⟩
                                · replace c57 := Bool.eq_false_iff.mpr c57
                                  subst c57
                                  have H1 : (some false) = some r := by rw [if_neg (show ¬ (false = true) by decide)] at H; exact H
                                  clear H
                                  have H := H1
                                  clear H1
                                  obtain rfl := Option.some.inj H
                                  go_wp2_with (first | ((with_reducible refine gate_callee (f := 11) rfl ?_); refine goesL_ (some 156) rfl rfl Try.func11 (by kernel_rfl) rfl #[.slice A1 l1.length c1] rfl (by (try simp only [List.map_toArray, List.map_cons, List.map_nil]); first | done | rfl | (simp only [List.length_drop, List.length_take]; rfl)) ?_; (with_reducible refine (spec_DrawBreakAt.calls kj38 _ _ l1 t126 t127 t128 _ ?side1 ?side2 A48.out).mono ?_); (case side1 => repeat (first | exact (Kd.C_below HR1.out HB.out) | (with_reducible refine Kd.C_alloc ?_ _) | (with_reducible refine Kd.C_drewN ?_ _) | (with_reducible refine Kd.C_drew ?_))); (case side2 => exact HC1.out); rintro e w86 ⟨v129, v131, rfl, ho0, ho1, hb⟩; refine ⟨_, rfl, ?_⟩; have n0_ := mz (Kd.R_elder' (by (with_reducible repeat (first | apply Kd.R_alloc | apply Kd.R_drewN | apply Kd.R_drew)); exact HO_5.out) (Kd.R_base ho0) hb); have n1_ := mz (Kd.R_elder' (by (with_reducible repeat (first | apply Kd.R_alloc | apply Kd.R_drewN | apply Kd.R_drew)); exact HO_21.out) (Kd.R_base ho0) hb); have n2_ := mz (Kd.R_lower (Kd.R_new' (Kd.R_new' ho0 (Kd.R_lt (by (with_reducible repeat (first | apply Kd.R_alloc | apply Kd.R_drewN | apply Kd.R_drew)); exact HO_5.out))) (Kd.R_lt (by (with_reducible repeat (first | apply Kd.R_alloc | apply Kd.R_drewN | apply Kd.R_drew)); exact HO_21.out))) (below_size (by repeat (first | (with_reducible first | exact HB.out | apply below_alloc | apply pw_below_drewN | apply below_drew1) | exact HB.out)))); have n3_ := mz (Kd.R_lower ho1 (below_size (by repeat (first | (with_reducible first | exact HB.out | apply below_alloc | apply pw_below_drewN | apply below_drew1) | exact HB.out)))); have n4_ := mz (below_step (by repeat (first | (with_reducible first | exact HB.out | apply below_alloc | apply pw_below_drewN | apply below_drew1) | exact HB.out)) hb); clear HO_5; clear HO_21; clear HB; have HO_5 := n0_; have HO_21 := n1_; have HO130 := n2_; have HO132 := n3_; have HB := n4_; clear n0_ n1_ n2_ n3_ n4_; (try clear hb); (try clear hb2); (try clear hk); (try clear hi); (try clear ho0); (try clear ho1); obtain ⟨Ao87, co87, eo87⟩ := Kd.R_slice HO132.out; subst eo87) | ((with_reducible refine gate_callee (f := 12) rfl ?_); refine goesL_ (some 164) rfl rfl Try.func12 (by kernel_rfl) rfl #[.slice Ao9 t101.length co9, .slice Ao87 t127.length co87, .int .i64 t102] rfl (by (try simp only [List.map_toArray, List.map_cons, List.map_nil]); first | done | rfl | (simp only [List.length_drop, List.length_take]; rfl)) ?_; (with_reducible refine (impl_BreakAt.calls _ _ t101 _ _ t127 t102 t133 t134 _ ?side1 ?side2 ?side3 ?side4 A49.out).mono ?_); (case side1 => repeat (first | exact (Kd.R_reads' HO_5.out).2.2 | (with_reducible refine Kd.C_alloc ?_ _) | (with_reducible refine Kd.C_drewN ?_ _) | (with_reducible refine Kd.C_drew ?_))); (case side2 => exact (Kd.R_reads' HO_5.out).2.1); (case side3 => repeat (first | exact (Kd.R_reads' HO132.out).2.2 | (with_reducible refine Kd.C_alloc ?_ _) | (with_reducible refine Kd.C_drewN ?_ _) | (with_reducible refine Kd.C_drew ?_))); (case side4 => exact (Kd.R_reads' HO132.out).2.1); rintro e w88 ⟨v135, rfl, ho0, hb⟩; refine ⟨_, rfl, ?_⟩; have n0_ := mz (Kd.R_elder' (by (with_reducible repeat (first | apply Kd.R_alloc | apply Kd.R_drewN | apply Kd.R_drew)); exact HO_5.out) (Kd.R_base ho0) hb); have n1_ := mz (Kd.R_elder' (by (with_reducible repeat (first | apply Kd.R_alloc | apply Kd.R_drewN | apply Kd.R_drew)); exact HO_21.out) (Kd.R_base ho0) hb); have n2_ := mz (Kd.R_elder' (by (with_reducible repeat (first | apply Kd.R_alloc | apply Kd.R_drewN | apply Kd.R_drew)); exact HO130.out) (Kd.R_base ho0) hb); have n3_ := mz (Kd.R_below (by (with_reducible repeat (first | apply Kd.R_alloc | apply Kd.R_drewN | apply Kd.R_drew)); exact HO132.out) hb); have n4_ := mz (Kd.R_lower (Kd.R_new' (Kd.R_new' (Kd.R_new' ho0 (Kd.R_lt (by (with_reducible repeat (first | apply Kd.R_alloc | apply Kd.R_drewN | apply Kd.R_drew)); exact HO_5.out))) (Kd.R_lt (by (with_reducible repeat (first | apply Kd.R_alloc | apply Kd.R_drewN | apply Kd.R_drew)); exact HO_21.out))) (Kd.R_lt (by (with_reducible repeat (first | apply Kd.R_alloc | apply Kd.R_drewN | apply Kd.R_drew)); exact HO130.out))) (below_size (by repeat (first | (with_reducible first | exact HB.out | apply below_alloc | apply pw_below_drewN | apply below_drew1) | exact HB.out)))); have n5_ := mz (below_step (by repeat (first | (with_reducible first | exact HB.out | apply below_alloc | apply pw_below_drewN | apply below_drew1) | exact HB.out)) hb); clear HO_5; clear HO_21; clear HO130; clear HO132; clear HB; have HO_5 := n0_; have HO_21 := n1_; have HO130 := n2_; have HO132 := n3_; have HO136 := n4_; have HB := n5_; clear n0_ n1_ n2_ n3_ n4_ n5_; (try clear hb); (try clear hb2); (try clear hk); (try clear hi); (try clear ho0)) | ((with_reducible refine gate_callee (f := 13) rfl ?_); refine goesL_ (some 171) rfl rfl Try.func13 (by kernel_rfl) rfl #[.slice Ao9 t101.length co9, .slice Ao87 t127.length co87, .int .i64 t102] rfl (by (try simp only [List.map_toArray, List.map_cons, List.map_nil]); first | done | rfl | (simp only [List.length_drop, List.length_take]; rfl)) ?_; (with_reducible refine (spec_BreakAt.calls kj38 _ _ t101 _ _ t127 t102 t137 t138 _ ?side1 ?side2 ?side3 ?side4 A50.out).mono ?_); (case side1 => repeat (first | exact (Kd.R_reads' HO_5.out).2.2 | (with_reducible refine Kd.C_alloc ?_ _) | (with_reducible refine Kd.C_drewN ?_ _) | (with_reducible refine Kd.C_drew ?_))); (case side2 => exact (Kd.R_reads' HO_5.out).2.1); (case side3 => repeat (first | exact (Kd.R_reads' HO132.out).2.2 | (with_reducible refine Kd.C_alloc ?_ _) | (with_reducible refine Kd.C_drewN ?_ _) | (with_reducible refine Kd.C_drew ?_))); (case side4 => exact (Kd.R_reads' HO132.out).2.1); rintro e w89 ⟨v139, rfl, ho0, hb⟩; refine ⟨_, rfl, ?_⟩; have n0_ := mz (Kd.R_elder' (by (with_reducible repeat (first | apply Kd.R_alloc | apply Kd.R_drewN | apply Kd.R_drew)); exact HO_5.out) (Kd.R_base ho0) hb); have n1_ := mz (Kd.R_elder' (by (with_reducible repeat (first | apply Kd.R_alloc | apply Kd.R_drewN | apply Kd.R_drew)); exact HO_21.out) (Kd.R_base ho0) hb); have n2_ := mz (Kd.R_elder' (by (with_reducible repeat (first | apply Kd.R_alloc | apply Kd.R_drewN | apply Kd.R_drew)); exact HO130.out) (Kd.R_base ho0) hb); have n3_ := mz (Kd.R_below (by (with_reducible repeat (first | apply Kd.R_alloc | apply Kd.R_drewN | apply Kd.R_drew)); exact HO132.out) hb); have n4_ := mz (Kd.R_elder' (by (with_reducible repeat (first | apply Kd.R_alloc | apply Kd.R_drewN | apply Kd.R_drew)); exact HO136.out) (Kd.R_base ho0) hb); have n5_ := mz (Kd.R_lower (Kd.R_new' (Kd.R_new' (Kd.R_new' (Kd.R_new' ho0 (Kd.R_lt (by (with_reducible repeat (first | apply Kd.R_alloc | apply Kd.R_drewN | apply Kd.R_drew)); exact HO_5.out))) (Kd.R_lt (by (with_reducible repeat (first | apply Kd.R_alloc | apply Kd.R_drewN | apply Kd.R_drew)); exact HO_21.out))) (Kd.R_lt (by (with_reducible repeat (first | apply Kd.R_alloc | apply Kd.R_drewN | apply Kd.R_drew)); exact HO130.out))) (Kd.R_lt (by (with_reducible repeat (first | apply Kd.R_alloc | apply Kd.R_drewN | apply Kd.R_drew)); exact HO136.out))) (below_size (by repeat (first | (with_reducible first | exact HB.out | apply below_alloc | apply pw_below_drewN | apply below_drew1) | exact HB.out)))); have n6_ := mz (below_step (by repeat (first | (with_reducible first | exact HB.out | apply below_alloc | apply pw_below_drewN | apply below_drew1) | exact HB.out)) hb); clear HO_5; clear HO_21; clear HO130; clear HO132; clear HO136; clear HB; have HO_5 := n0_; have HO_21 := n1_; have HO130 := n2_; have HO132 := n3_; have HO136 := n4_; have HO140 := n5_; have HB := n6_; clear n0_ n1_ n2_ n3_ n4_ n5_ n6_; (try clear hb); (try clear hb2); (try clear hk); (try clear hi); (try clear ho0); obtain ⟨Ao90, co90, eo90⟩ := Kd.R_slice HO136.out; subst eo90; obtain ⟨Ao91, co91, eo91⟩ := Kd.R_slice HO140.out; subst eo91) | (go_at_call 8; (with_reducible refine (laws_sameTexts.calls kj38 _ _ t133 _ _ t137 false _ ?side1 ?side2 ?side3 ?side4 A56.out).mono ?_); (case side1 => repeat (first | exact (Kd.R_reads' HO136.out).2.2 | (with_reducible refine Kd.C_alloc ?_ _) | (with_reducible refine Kd.C_drewN ?_ _) | (with_reducible refine Kd.C_drew ?_))); (case side2 => exact (Kd.R_reads' HO136.out).2.1); (case side3 => repeat (first | exact (Kd.R_reads' HO140.out).2.2 | (with_reducible refine Kd.C_alloc ?_ _) | (with_reducible refine Kd.C_drewN ?_ _) | (with_reducible refine Kd.C_drew ?_))); (case side4 => exact (Kd.R_reads' HO140.out).2.1); rintro e w' ⟨rfl, ⟨nd, rfl⟩⟩))
                                  go_ret
                                  exact ⟨by first | rfl | (simp [errW_none, errW_some] <;> rfl) | (simp [*, errW_none, errW_some] <;> rfl), by repeat (first | (with_reducible first | exact HB.out | apply below_alloc | apply pw_below_drewN | apply below_drew1) | exact HB.out)⟩
          · replace c18 := Bool.eq_false_iff.mpr c18
            subst c18
            have H1 : (some (t106 == 0)) = some r := by rw [if_neg (show ¬ (false = true) by decide)] at H; exact H
            clear H
            have H := H1
            clear H1
            obtain rfl := Option.some.inj H
            go_wp2
            go_ret
            exact ⟨by first | rfl | (simp [errW_none, errW_some] <;> rfl) | (simp [*, errW_none, errW_some] <;> rfl), by repeat (first | (with_reducible first | exact HB.out | apply below_alloc | apply pw_below_drewN | apply below_drew1) | exact HB.out)⟩
end
def Opens {α : Type} (P : Program) (t : TypeId) (d : Kd α) (B : α → Prop) : Prop :=
  ∀ (H : Type) (enc : TypeId × Value → H) (W : World) (fuel : Nat) (cs : List Value) (x : DataW H × List MemPlace),
    DataW.trod enc P W 0 (fun _ => true) true fuel t cs = some x → ∃ y : α, d.K W y cs ∧ B y

theorem opens_int {P : Program} {t : TypeId} {k : IntKind} (ht : P.underlying t = some (.int k)) : Opens P t (Kd.int k) (fun n => (Lit.int k n).wf = true) := by
  intro H enc W fuel cs x h
  obtain ⟨n, rfl, _, hw⟩ := DataW.trod_int ht h
  exact ⟨n, rfl, hw⟩
theorem list_of {α : Type} (Q : Nat → α → Prop) (n : Nat) (h : ∀ i, i < n → ∃ y, Q i y) : ∃ ys : List α, ys.length = n ∧ ∀ i y, ys[i]? = some y → Q i y := by
  induction n with
  | zero => exact ⟨[], rfl, fun i y hy => by simp at hy⟩
  | succ n ih =>
    obtain ⟨ys, hl, hq⟩ := ih (fun i hi => h i (by omega))
    obtain ⟨y, hy⟩ := h n (by omega)
    refine ⟨ys ++ [y], by simp [hl], fun i z hz => ?_⟩
    rcases Nat.lt_or_ge i ys.length with hi | hi
    · rw [List.getElem?_append_left hi] at hz
      exact hq i z hz
    · have hi' : i = n := by
        have := (List.getElem?_eq_some_iff.1 hz).1
        simp at this
        omega
      subst hi'
      rw [List.getElem?_append_right hi, hl, Nat.sub_self] at hz
      have : y = z := by simpa using hz
      subst this
      exact hy

theorem opens_slice {α : Type} {P : Program} {t e : TypeId} {d : Kd α} {B : α → Prop} (ht : P.underlying t = some (.slice e)) (hc : P.cellsOf e = d.sz) (hd : Opens P e d B) :
    Opens P t (Kd.slice e d) (fun l => l.length ≤ maxLen ∧ ∀ x ∈ l, B x) := by
  intro H enc W fuel cs x h
  rcases DataW.trod_slice ht h with ⟨rfl, _⟩ | ⟨a, len, cap, elems, rest, n, _, rfl, _, _, hl, hm, hlen, hel, _, _⟩
  · exact ⟨[], ⟨none, 0, rfl, Nat.le_refl _, rfl, by simp, fun h0 => absurd h0 (by simp)⟩, by simp, by simp⟩
  · have each : ∀ i, i < len → ∃ y : α, (∃ c, W.cells? 0 (a.add (i * P.cellsOf e)) (P.cellsOf e) = some c ∧ d.K W y c) ∧ B y := by
      intro i hi
      have h1 := hel i hi
      rw [List.getElem?_eq_getElem (by omega), Option.bind_eq_some_iff] at h1
      obtain ⟨c, h2, h3⟩ := h1
      obtain ⟨y, h4, h5⟩ := hd H enc W n c _ h3
      exact ⟨y, ⟨c, h2, h4⟩, h5⟩
    obtain ⟨ys, hys, hq⟩ := list_of _ len each
    refine ⟨ys, ⟨some a, cap, by rw [hys], by rw [hys]; exact hl, rfl, ?_, fun _ => ⟨a, rfl, fun j p hj => ?_⟩⟩, by rw [hys]; exact Nat.le_trans hl hm, fun z hz => ?_⟩
    · rw [hys]
      have := Nat.le_trans hl hm
      simp only [maxLen] at this
      exact this
    · obtain ⟨⟨c, h2, h3⟩, _⟩ := hq j p hj
      refine ⟨c, d.K_len h3, h3, fun i u hu => ?_⟩
      have hi : i < P.cellsOf e := by rw [hc, ← d.K_len h3]; exact (List.getElem?_eq_some_iff.1 hu).1
      have := (World.cells?_some h2).2.2 i hi
      rw [Addr.add_add, hc] at this
      rw [this, hu]
    · obtain ⟨j, hj, rfl⟩ := List.getElem_of_mem hz
      exact (hq j _ (List.getElem?_eq_getElem hj)).2
section
attribute [local go_sem] max2_int min2_int max_two min_two max_three min_three max_four min_four

end
section
attribute [local go_sem] max2_int min2_int max_two min_two max_three min_three max_four min_four
def PureFnLines : Prop := ∀ (l0 : List Int), ∀ (l1 : List Int), (l0.length ≤ maxLen ∧ ∀ y ∈ l0, (Lit.int .u8 y).wf = true) → (l1.length ≤ maxLen ∧ ∀ y ∈ l1, (Lit.int .u8 y).wf = true) → ∃ k, laws_FnLines.f k l0 l1 = some true
end
section
attribute [local go_sem] max2_int min2_int max_two min_two max_three min_three max_four min_four

end
def greedyGo (w : Int) (cur : ByteArray) : List ByteArray → List ByteArray
  | [] => [cur]
  | x :: xs => if (cur.size : Int) + 1 + x.size ≤ w then greedyGo w (cur ++ blankB ++ x) xs else cur :: greedyGo w x xs
def greedyB (w : Int) : List ByteArray → List ByteArray
  | [] => []
  | x :: xs => greedyGo w x xs
theorem impl_greedy_loop (ws : List ByteArray) (w : Int) (hw : w ≤ 80) (hl : ws.length ≤ 60) (hs : ∀ s ∈ ws, s.size ≤ 80) (d : Nat) : ∀ (i : Nat) (done : List ByteArray) (cur : ByteArray), i + d = ws.length → done.length + 1 ≤ i → cur.size ≤ 80 →
    Ev (fun k => impl_greedy.l0 k w (done ++ [cur]) ws (ws.length : Int) (i : Int)) (done ++ greedyGo w cur (ws.drop i)) := by
  induction d with
  | zero =>
    intro i done cur h hd hc
    refine Ev.succ ?_
    simp only [impl_greedy.l0, if_neg (show ¬ ((i : Int) < (ws.length : Int)) by omega)]
    rw [List.drop_eq_nil_of_le (by omega)]
    exact Ev.now _
  | succ d ih =>
    intro i done cur h hd hc
    have e : ws.drop i = ws[i] :: ws.drop (i + 1) := List.drop_eq_getElem_cons (by omega)
    have hz := hs ws[i] (List.getElem_mem (by omega))
    have hk : wrap64 (((done ++ [cur]).length : Int) - 1) = (done.length : Int) := by
      rw [List.length_append, List.length_singleton]
      rw [w64 (by omega) (by omega)]; omega
    have hr : rdOf ByteArray.empty (done ++ [cur]) (done.length : Int) = cur := by rw [rdOf_get _ _ _ (by simp)]; simp
    refine Ev.succ ?_
    simp only [impl_greedy.l0, if_pos (show ((i : Int) < (ws.length : Int)) by omega), if_pos (show (0 : Int) ≤ i by omega), rdOf_get _ ws i (by omega), hk, hr, if_pos (show (done.length : Int) ≥ 0 by omega), if_pos (show (done.length : Int) < ((done ++ [cur]).length : Int) by rw [List.length_append, List.length_singleton]; omega), w64 (show -9223372036854775808 ≤ (i : Int) + 1 by omega) (by omega), w64 (show -9223372036854775808 ≤ (cur.size : Int) + 1 by omega) (by omega), w64 (show -9223372036854775808 ≤ (cur.size : Int) + 1 + (ws[i].size : Int) by omega) (by omega), Int.toNat_natCast]
    rw [e, greedyGo]
    by_cases hf : (cur.size : Int) + 1 + (ws[i].size : Int) ≤ w
    · simp only [if_pos hf, if_pos (show 1 + ws[i].size ≤ 9223372036854775807 by omega)]
      simp only [if_pos (show cur.size + ((⟨#[32]⟩ : ByteArray) ++ ws[i]).size ≤ 9223372036854775807 by rw [ByteArray.size_append]; show cur.size + (1 + _) ≤ _; omega)]
      have hset : (done ++ [cur]).set done.length (cur ++ (blankB ++ ws[i])) = done ++ [cur ++ blankB ++ ws[i]] := by rw [ByteArray.append_assoc]; simp
      rw [hset]
      refine ih (i + 1) done _ (by omega) (by omega) ?_
      rw [ByteArray.size_append, ByteArray.size_append, blankB_size]; omega
    · simp only [if_neg hf, if_pos (show (done ++ [cur]).length < 8796093022208 by simp; omega)]
      refine ev_eq (ih (i + 1) (done ++ [cur]) ws[i] (by omega) (by simp; omega) hz) ?_
      rw [List.append_assoc]; rfl
theorem impl_greedy_ev (ws : List ByteArray) (w : Int) (hw : w ≤ 80) (hl : ws.length ≤ 60) (hs : ∀ s ∈ ws, s.size ≤ 80) : Ev (fun k => impl_greedy.f k ws w) (greedyB w ws) := by
  unfold impl_greedy.f
  cases ws with
  | nil =>
    refine Ev.succ ?_
    simp only [impl_greedy.l0, List.length_nil]
    exact Ev.now _
  | cons s l =>
    refine Ev.succ ?_
    have e0 : rdOf ByteArray.empty (s :: l) 0 = s := rfl
    have en : wrap64 ((([] : List ByteArray).length : Int) - 1) = -1 := by rw [List.length_nil]; exact w64 (by omega) (by omega)
    simp only [impl_greedy.l0, if_pos (show (0 : Int) < ((s :: l).length : Int) by rw [List.length_cons]; omega), if_pos (show (0 : Int) ≤ 0 by omega), en, if_neg (show ¬ (-1 : Int) ≥ 0 by omega), e0, if_pos (show ([] : List ByteArray).length < 8796093022208 by simp), w64 (show -9223372036854775808 ≤ (0 : Int) + 1 by omega) (by omega)]
    exact impl_greedy_loop (s :: l) w hw hl hs l.length 1 [] s (by rw [List.length_cons]; omega) (by simp) (hs s (List.mem_cons_self ..))
def costs (w : Int) : List ByteArray → Int
  | [] => 0
  | [_] => 0
  | s :: t :: l => (w - s.size) * (w - s.size) + costs w (t :: l)
theorem costs_cons (w : Int) (s : ByteArray) (l : List ByteArray) (h : l ≠ []) : costs w (s :: l) = (w - s.size) * (w - s.size) + costs w l := by
  cases l with
  | nil => exact absurd rfl h
  | cons t l => rfl
def linesOk (w : Int) (l : List ByteArray) : Bool := l.all fun s => decide (1 ≤ (s.size : Int)) && decide ((s.size : Int) ≤ w)

theorem sq_bd (w z : Int) (h1 : 1 ≤ w) (h2 : w ≤ 80) (h3 : 1 ≤ z) (h4 : z ≤ w) : 0 ≤ (w - z) * (w - z) ∧ (w - z) * (w - z) ≤ 6400 := by
  have h : 0 ≤ w - z := by omega
  have h' : w - z ≤ 80 := by omega
  exact ⟨Int.mul_nonneg h h, by have := Int.mul_le_mul h' h' h (by omega); omega⟩

theorem impl_lines (l : List ByteArray) (w : Int) (h1 : 1 ≤ w) (h2 : w ≤ 80) (hl : l.length ≤ 60) (hs : ∀ s ∈ l, s.size ≤ maxLen) (d : Nat) : ∀ (i : Nat) (n : Int), i + d = l.length → 0 ≤ n → n ≤ i * 6400 →
    Ev (fun k => impl_CostOfLines.l0 k l w n l (l.length : Int) (i : Int)) (if linesOk w (l.drop i) = true then (n + costs w (l.drop i), true) else (0, false)) := by
  induction d with
  | zero =>
    intro i n h hn hn'
    refine Ev.succ ?_
    simp only [impl_CostOfLines.l0, if_neg (show ¬ ((i : Int) < (l.length : Int)) by omega)]
    refine ev_eq (Ev.now _) ?_
    rw [List.drop_eq_nil_of_le (by omega)]; simp [costs, linesOk]
  | succ d ih =>
    intro i n h hn hn'
    have hz := hs l[i] (List.getElem_mem (by omega))
    simp only [maxLen] at hz
    have e : l.drop i = l[i] :: l.drop (i + 1) := List.drop_eq_getElem_cons (by omega)
    have eok : linesOk w (l.drop i) = (decide (1 ≤ (l[i].size : Int)) && decide ((l[i].size : Int) ≤ w) && linesOk w (l.drop (i + 1))) := by rw [e]; rfl
    refine Ev.succ ?_
    simp only [impl_CostOfLines.l0, if_pos (show ((i : Int) < (l.length : Int)) by omega), if_pos (show (0 : Int) ≤ i by omega), rdOf_get _ l i (by omega)]
    have bad : ∀ b : Bool, b = true → linesOk w (l.drop i) = false → Ev (fun k => impl_CostOfLines.j2 k l w n (i : Int) l[i] l (l.length : Int) (i : Int) b) (if linesOk w (l.drop i) = true then (n + costs w (l.drop i), true) else (0, false)) := by
      intro b hb hf
      subst hb
      refine Ev.succ ?_
      simp only [impl_CostOfLines.j2, if_true, hf, Bool.false_eq_true, if_false]
      exact Ev.now _
    by_cases ha : l[i].toList = ([] : List UInt8)
    · simp only [if_pos ha]
      refine bad true rfl ?_
      have : l[i].size = 0 := by
        have h := congrArg List.length ha
        rw [ByteArray.toList_eq] at h
        simpa using h
      rw [eok, this]; rfl
    · simp only [if_neg ha]
      have hpos : 1 ≤ (l[i].size : Int) := by
        rcases Nat.eq_zero_or_pos l[i].size with h0 | h0
        · exfalso; apply ha
          rw [ByteArray.toList_eq]
          exact List.eq_nil_of_length_eq_zero (by simpa using h0)
        · omega
      by_cases hb : (l[i].size : Int) ≤ w
      · rw [decide_eq_false (show ¬ (l[i].size : Int) > w by omega)]
        have hb' := sq_bd w l[i].size h1 h2 hpos hb
        have eok' : linesOk w (l.drop i) = linesOk w (l.drop (i + 1)) := by rw [eok, decide_eq_true hpos, decide_eq_true hb]; rfl
        refine Ev.succ ?_
        simp only [impl_CostOfLines.j2, Bool.false_eq_true, if_false]
        rw [w64 (show -9223372036854775808 ≤ (i : Int) + 1 by omega) (by omega), w64 (show -9223372036854775808 ≤ w - (l[i].size : Int) by omega) (by omega), w64 (show -9223372036854775808 ≤ (w - (l[i].size : Int)) * (w - (l[i].size : Int)) by omega) (by omega), w64 (show -9223372036854775808 ≤ n + (w - (l[i].size : Int)) * (w - (l[i].size : Int)) by omega) (by omega), eok']
        by_cases hlast : (i : Int) + 1 < (l.length : Int)
        · simp only [if_pos hlast]
          refine ev_eq (ih (i + 1) _ (by omega) (by omega) (by omega)) ?_
          rw [e, costs_cons _ _ _ (fun hx => by have := congrArg List.length hx; simp at this; omega), Int.add_assoc]
        · simp only [if_neg hlast]
          refine ev_eq (ih (i + 1) _ (by omega) (by omega) (by omega)) ?_
          rw [e, List.drop_eq_nil_of_le (show l.length ≤ i + 1 by omega)]
          rfl
      · rw [decide_eq_true (show (l[i].size : Int) > w by omega)]
        refine bad true rfl ?_
        rw [eok, decide_eq_false hb]; simp

def costOf (l : List ByteArray) (w : Int) : Int × Bool := if 1 ≤ w ∧ w ≤ 80 ∧ l.length ≤ 60 ∧ linesOk w l = true then (costs w l, true) else (0, false)

theorem impl_CostOfLines_ev (l : List ByteArray) (w : Int) (hs : ∀ s ∈ l, s.size ≤ maxLen) : Ev (fun k => impl_CostOfLines.f k l w) (costOf l w) := by
  unfold impl_CostOfLines.f costOf impl_isWidth.f
  by_cases h1 : w ≥ 1
  · by_cases h2 : w ≤ 80
    · simp only [if_pos h1, decide_eq_true h2, Option.bind_some, if_true]
      refine Ev.succ ?_
      by_cases h3 : l.length ≤ 60
      · simp only [impl_CostOfLines.j0, decide_eq_false (show ¬ (l.length : Int) > 60 by omega), Bool.false_eq_true, if_false]
        refine ev_eq (impl_lines l w h1 h2 h3 hs l.length 0 0 (by omega) (by omega) (by omega)) ?_
        have h1' : 1 ≤ w := h1
        simp only [h1', h2, h3, true_and, List.drop_zero, Int.zero_add]
      · simp only [impl_CostOfLines.j0, decide_eq_true (show (l.length : Int) > 60 by omega), if_true]
        rw [if_neg (fun h => h3 h.2.2.1)]
        exact Ev.now _
    · simp only [if_pos h1, decide_eq_false h2, Option.bind_some, Bool.false_eq_true, if_false]
      rw [if_neg (fun h => h2 h.2.1)]
      refine Ev.succ ?_
      simp only [impl_CostOfLines.j0, if_true]
      exact Ev.now _
  · simp only [if_neg h1, Option.bind_some, Bool.false_eq_true, if_false]
    rw [if_neg (fun h => h1 h.1)]
    refine Ev.succ ?_
    simp only [impl_CostOfLines.j0, if_true]
    exact Ev.now _
inductive Br (W : Int) : List ByteArray → List ByteArray → Prop
  | nil : Br W [] []
  | cons {g r ls : List ByteArray} (hg : g ≠ []) (hf : ((joinB g).size : Int) ≤ W) (h : Br W r ls) : Br W (g ++ r) (joinB g :: ls)
def sumS (l : List ByteArray) : Nat := (l.map (fun s => s.size + 1)).sum
theorem sumS_append (a b : List ByteArray) : sumS (a ++ b) = sumS a + sumS b := by simp [sumS]
theorem joinB_sum (g : List ByteArray) (hg : g ≠ []) : (joinB g).size + 1 = sumS g := by
  cases g with
  | nil => exact absurd rfl hg
  | cons s l => rw [joinB, joinGo_size]; simp [sumS]; omega
theorem joinB_snoc (g : List ByteArray) (hg : g ≠ []) (x : ByteArray) : joinB (g ++ [x]) = joinB g ++ blankB ++ x := by
  cases g with
  | nil => exact absurd rfl hg
  | cons s l => show joinGo s (l ++ [x]) = _; rw [joinGo_append]; rfl
theorem Br.empty {W : Int} {ws ls : List ByteArray} (h : Br W ws ls) : ws = [] ↔ ls = [] := by
  cases h with
  | nil => simp
  | cons hg hf h => simp [hg]
theorem Br.length {W : Int} {ws ls : List ByteArray} (h : Br W ws ls) : ls.length ≤ ws.length := by
  induction h with
  | nil => exact Nat.le_refl 0
  | @cons g r ls hg hf h ih =>
    have : 1 ≤ g.length := List.length_pos_iff.2 hg
    rw [List.length_cons, List.length_append]; omega
theorem Br.sizes {W : Int} {ws ls : List ByteArray} (h : Br W ws ls) (hs : ∀ s ∈ ws, 1 ≤ s.size) : ∀ s ∈ ls, 1 ≤ s.size ∧ (s.size : Int) ≤ W := by
  induction h with
  | nil => intro s h; cases h
  | @cons g r ls hg hf h ih =>
    intro s hm
    rcases List.mem_cons.1 hm with rfl | hm
    · refine ⟨?_, hf⟩
      have h1 := joinB_sum g hg
      obtain ⟨x, l, rfl⟩ := List.exists_cons_of_ne_nil hg
      have h2 := hs x (by simp)
      simp only [sumS, List.map_cons, List.sum_cons] at h1
      omega
    · exact ih (fun x hx => hs x (List.mem_append_right _ hx)) s hm
theorem Br.cost {W : Int} {ws ls : List ByteArray} (h : Br W ws ls) (hs : ∀ s ∈ ws, 1 ≤ s.size) (hl : ws.length ≤ 60) (h1 : 1 ≤ W) (h2 : W ≤ 80) : costOf ls W = (costs W ls, true) := by
  have hz := h.sizes hs
  have hn := h.length
  have hok : linesOk W ls = true := by
    unfold linesOk
    rw [List.all_eq_true]
    intro s hm
    have := hz s hm
    rw [Bool.and_eq_true]
    exact ⟨decide_eq_true (by omega), decide_eq_true this.2⟩
  unfold costOf
  rw [if_pos ⟨h1, h2, by omega, hok⟩]
theorem joinGo_pre (a b : ByteArray) (l : List ByteArray) : joinGo (a ++ b) l = a ++ joinGo b l := by
  induction l generalizing b with
  | nil => rfl
  | cons s l ih => rw [joinGo, joinGo, show a ++ b ++ blankB ++ s = a ++ (b ++ blankB ++ s) by rw [ByteArray.append_assoc, ByteArray.append_assoc, ByteArray.append_assoc], ih]
theorem Br.joinGo {W : Int} {ws ls : List ByteArray} (h : Br W ws ls) : ∀ acc, X.joinGo acc ls = X.joinGo acc ws := by
  induction h with
  | nil => intro acc; rfl
  | @cons g r ls hg hf h ih =>
    intro acc
    obtain ⟨x, l, rfl⟩ := List.exists_cons_of_ne_nil hg
    rw [X.joinGo, ih, List.cons_append, X.joinGo, joinGo_append]
    congr 1
    show acc ++ blankB ++ X.joinGo x l = _
    rw [joinGo_pre]
theorem Br.join {W : Int} {ws ls : List ByteArray} (h : Br W ws ls) : joinB ls = joinB ws := by
  cases h with
  | nil => rfl
  | @cons g r ls hg hf h =>
    obtain ⟨x, l, rfl⟩ := List.exists_cons_of_ne_nil hg
    show X.joinGo (X.joinGo x l) ls = X.joinGo x (l ++ r)
    rw [h.joinGo, joinGo_append]

theorem ltB_iff2 (x y : Bst) : ltB x y = true ↔ (x.c < y.c ∨ (x.c = y.c ∧ x.l < y.l)) := by simp [ltB]
theorem xC_n (W : Int) (l : List ByteArray) (t : List Bst) (n : Nat) : (xC W l t n).n = (n : Int) + 1 := rfl
theorem dnC_le (W : Int) (l : List ByteArray) (t : List Bst) (ht : l.length ≤ t.length) (n : Nat) (hn : n < l.length) (hf : szB l (n + 1) ≤ W) (d : Nat) : ∀ j, j + d = n → (dnC W l t j).n ≠ 0 ∧ (dnC W l t j).c ≤ (xC W l t n).c := by
  induction d with
  | zero =>
    intro j hj
    obtain rfl : j = n := by omega
    rw [dnC_step W l t j hn (by omega), if_neg (by omega)]
    by_cases hc : (dnC W l t (j + 1)).n = 0 ∨ ltB (xC W l t j) (dnC W l t (j + 1)) = true
    · rw [if_pos hc]; exact ⟨by rw [xC_n]; omega, Int.le_refl _⟩
    · rw [if_neg hc]
      rw [ltB_iff2] at hc
      exact ⟨fun e => hc (.inl e), by omega⟩
  | succ d ih =>
    intro j hj
    obtain ⟨h1, h2⟩ := ih (j + 1) (by omega)
    rw [dnC_step W l t j (by omega) (by omega)]
    by_cases hw : W < szB l (j + 1)
    · rw [if_pos hw]; exact ⟨h1, h2⟩
    · rw [if_neg hw]
      by_cases hc : (dnC W l t (j + 1)).n = 0 ∨ ltB (xC W l t j) (dnC W l t (j + 1)) = true
      · rw [if_pos hc]
        refine ⟨by rw [xC_n]; omega, ?_⟩
        rw [ltB_iff2] at hc
        rcases hc with hc | hc
        · exact absurd hc h1
        · omega
      · rw [if_neg hc]; exact ⟨h1, h2⟩
def headB (W : Int) (ws : List ByteArray) : Bst := (tabB W ws).getD 0 zB
theorem headB_cons (W : Int) (w : ByteArray) (r : List ByteArray) : headB W (w :: r) = dnC W (w :: r) (tabB W r) 0 := rfl
theorem tab_get (W : Int) (r : List ByteArray) (i : Nat) (h : i ≤ r.length) : (tabB W r).getD i zB = headB W (r.drop i) := by
  have e := tabB_drop W r i h
  unfold headB
  rw [← e, List.getD_eq_getElem?_getD, List.getD_eq_getElem?_getD, List.getElem?_drop, Nat.add_zero]
theorem head_le {W : Int} {ws ls : List ByteArray} (h : Br W ws ls) : (headB W ws).c ≤ costs W ls := by
  induction h with
  | nil => exact Int.le_refl 0
  | @cons g r ls hg hf h ih =>
    obtain ⟨x, l, rfl⟩ := List.exists_cons_of_ne_nil hg
    have htl := tabB_length W (l ++ r)
    have htk : (x :: (l ++ r)).take (l.length + 1) = x :: l := by rw [List.take_succ_cons, List.take_left]
    have hsz := szB_join (x :: (l ++ r)) l.length (by simp only [List.length_cons, List.length_append]; omega)
    rw [htk] at hsz
    have hle := (dnC_le W (x :: (l ++ r)) (tabB W (l ++ r)) (by rw [htl]; simp) l.length (by simp only [List.length_cons, List.length_append]; omega) (by rw [← hsz]; exact hf) l.length 0 (by omega)).2
    rw [List.cons_append, headB_cons]
    refine Int.le_trans hle ?_
    have hget : (tabB W (l ++ r)).getD l.length zB = headB W r := by rw [tab_get W (l ++ r) l.length (by rw [List.length_append]; omega), List.drop_left]
    unfold xC
    rw [hget, ← hsz]
    show (if _ then _ else _) ≤ _
    by_cases hr : r = []
    · have hls : ls = [] := h.empty.1 hr
      subst hr; subst hls
      rw [if_pos (by simp)]
      exact Int.le_refl 0
    · have hls : ls ≠ [] := fun e => hr (h.empty.2 e)
      have hrl : 1 ≤ r.length := List.length_pos_iff.2 hr
      rw [if_neg (by simp only [List.length_cons, List.length_append]; omega), costs_cons W _ ls hls]
      show _ + sqB (W - _) ≤ (W - _) * (W - _) + _
      unfold sqB
      omega
theorem dnC_is (W : Int) (l : List ByteArray) (t : List Bst) (ht : l.length ≤ t.length) (d : Nat) : ∀ j, j + d = l.length → (dnC W l t j).n = 0 ∨ ∃ n, j ≤ n ∧ n < l.length ∧ szB l (n + 1) ≤ W ∧ dnC W l t j = xC W l t n := by
  induction d with
  | zero =>
    intro j hj
    obtain rfl : j = l.length := by omega
    rw [dnC_end]; exact .inl rfl
  | succ d ih =>
    intro j hj
    have hn : (dnC W l t (j + 1)).n = 0 ∨ ∃ n, j ≤ n ∧ n < l.length ∧ szB l (n + 1) ≤ W ∧ dnC W l t (j + 1) = xC W l t n := by
      rcases ih (j + 1) (by omega) with h | ⟨n, h1, h2⟩
      · exact .inl h
      · exact .inr ⟨n, by omega, h2⟩
    rw [dnC_step W l t j (by omega) (by omega)]
    by_cases hw : W < szB l (j + 1)
    · rw [if_pos hw]; exact hn
    · rw [if_neg hw]
      by_cases hc : (dnC W l t (j + 1)).n = 0 ∨ ltB (xC W l t j) (dnC W l t (j + 1)) = true
      · rw [if_pos hc]; exact .inr ⟨j, Nat.le_refl _, by omega, by omega, rfl⟩
      · rw [if_neg hc]; exact hn
theorem lines_br (W : Int) (ws : List ByteArray) (hs : ∀ s ∈ ws, (s.size : Int) ≤ W) (k : Nat) : ∀ i, i ≤ ws.length → ws.length - i < k → Br W (ws.drop i) (linesB ws (tabB W ws) k i) ∧ costs W (linesB ws (tabB W ws) k i) = (headB W (ws.drop i)).c := by
  induction k with
  | zero => intro i _ h; omega
  | succ k ih =>
    intro i hi hk
    rw [linesB]
    by_cases hlt : i < ws.length
    · rw [if_pos hlt]
      have hb := tab_get W ws i hi
      obtain ⟨w, hw⟩ : ∃ x, x = ws[i] := ⟨_, rfl⟩
      obtain ⟨r, hr⟩ : ∃ x, x = ws.drop (i + 1) := ⟨_, rfl⟩
      have hd : ws.drop i = w :: r := by rw [hw, hr]; exact List.drop_eq_getElem_cons hlt
      have hwW : (w.size : Int) ≤ W := by rw [hw]; exact hs _ (List.getElem_mem hlt)
      have htw := tabB_words W w r hwW
      rw [← dnC_all] at htw
      have hrl : r.length + (i + 1) = ws.length := by rw [hr, List.length_drop]; omega
      rw [hb, hd, headB_cons]
      have htl := tabB_length W r
      rcases dnC_is W (w :: r) (tabB W r) (by rw [htl]; simp) (w :: r).length 0 (by omega) with h0 | ⟨n, _, hn, hf, he⟩
      · omega
      · rw [he, xC_n, show ((n : Int) + 1).toNat = n + 1 by omega]
        simp only [List.length_cons] at hn
        obtain ⟨h1, h2⟩ := ih (i + (n + 1)) (by omega) (by omega)
        have htk : (ws.take (i + (n + 1))).drop i = (w :: r).take (n + 1) := by rw [← hd, List.take_drop]
        have hdd : ws.drop (i + (n + 1)) = (w :: r).drop (n + 1) := by rw [← hd, List.drop_drop]
        have hsz := szB_join (w :: r) n (by simp only [List.length_cons]; omega)
        rw [htk]
        rw [hdd] at h1 h2
        generalize linesB ws (tabB W ws) k (i + (n + 1)) = ls at h1 h2
        have hne : (w :: r).take (n + 1) ≠ [] := by rw [List.take_succ_cons]; exact List.cons_ne_nil _ _
        constructor
        · have := Br.cons (W := W) hne (by rw [hsz]; exact hf) h1
          rwa [List.take_append_drop] at this
        · have hget : (tabB W r).getD n zB = headB W ((w :: r).drop (n + 1)) := by rw [tab_get W r n (by omega)]; rfl
          unfold xC
          rw [hget]
          show costs W (joinB _ :: ls) = if _ then _ else _
          by_cases he2 : (w :: r).length ≤ n + 1
          · have hnil : (w :: r).drop (n + 1) = [] := List.drop_eq_nil_of_le he2
            rw [if_pos he2]
            rw [hnil] at h1 ⊢
            rw [h1.empty.1 rfl]
            rfl
          · have hnn : (w :: r).drop (n + 1) ≠ [] := by intro e; have := congrArg List.length e; rw [List.length_drop] at this; simp at this; simp only [List.length_cons] at he2; omega
            rw [if_neg he2, costs_cons W _ ls (fun e => hnn (h1.empty.2 e)), h2, hsz]
            unfold sqB
            omega
    · rw [if_neg hlt, show ws.drop i = [] from List.drop_eq_nil_of_le (by omega)]
      exact ⟨Br.nil, rfl⟩

theorem greedy_br (W : Int) (l : List ByteArray) : ∀ g : List ByteArray, g ≠ [] → ((joinB g).size : Int) ≤ W → (∀ s ∈ l, (s.size : Int) ≤ W) → Br W (g ++ l) (greedyGo W (joinB g) l) := by
  induction l with
  | nil =>
    intro g hg hf hs
    exact Br.cons hg hf Br.nil
  | cons x xs ih =>
    intro g hg hf hs
    rw [greedyGo]
    by_cases hc : ((joinB g).size : Int) + 1 + x.size ≤ W
    · rw [if_pos hc, ← joinB_snoc g hg x]
      have := ih (g ++ [x]) (by simp) (by rw [joinB_snoc g hg x, ByteArray.size_append, ByteArray.size_append, blankB_size]; omega) (fun s h => hs s (List.mem_cons_of_mem _ h))
      rwa [List.append_assoc] at this
    · rw [if_neg hc]
      have hx := hs x (List.mem_cons_self ..)
      exact Br.cons hg hf (ih [x] (by simp) hx (fun s h => hs s (List.mem_cons_of_mem _ h)))
theorem greedy_least (W : Int) (l : List ByteArray) : ∀ (g p ls : List ByteArray), g ≠ [] → Br W ((p ++ g) ++ l) ls → (greedyGo W (joinB g) l).length ≤ ls.length := by
  induction l with
  | nil =>
    intro g p ls hg h
    have hne : ls ≠ [] := fun e => by
      have := h.empty.2 e
      simp at this
      exact hg this.2
    exact List.length_pos_iff.2 hne
  | cons x xs ih =>
    intro g p ls hg h
    rw [greedyGo]
    by_cases hc : ((joinB g).size : Int) + 1 + x.size ≤ W
    · rw [if_pos hc, ← joinB_snoc g hg x]
      refine ih (g ++ [x]) p ls (by simp) ?_
      have e : (p ++ (g ++ [x])) ++ xs = (p ++ g) ++ (x :: xs) := by simp
      rw [e]; exact h
    · rw [if_neg hc, List.length_cons]
      generalize hws : (p ++ g) ++ (x :: xs) = ws at h
      cases h with
      | nil => exact absurd hws (by simp)
      | @cons k r ls' hk hf h =>
        rw [List.length_cons]
        refine Nat.succ_le_succ ?_
        rcases List.append_eq_append_iff.1 hws with ⟨a', h1, h2⟩ | ⟨c', h1, h2⟩
        · cases a' with
          | nil =>
            rw [List.nil_append] at h2
            subst h2
            exact ih [x] [] ls' (by simp) h
          | cons y a'' =>
            exfalso
            rw [List.cons_append] at h2
            obtain ⟨rfl, _⟩ := List.cons.inj h2
            have e1 := joinB_sum k hk
            have e2 := joinB_sum g hg
            rw [h1, sumS_append, sumS_append] at e1
            have e3 : sumS (x :: a'') = x.size + 1 + sumS a'' := by simp [sumS]
            rw [← h1] at e1
            omega
        · have := ih [x] c' ls' (by simp) (by rw [List.append_assoc]; rw [h2] at h; exact h)
          exact this

theorem greedyB_br (W : Int) (ws : List ByteArray) (hs : ∀ s ∈ ws, (s.size : Int) ≤ W) : Br W ws (greedyB W ws) := by
  cases ws with
  | nil => exact Br.nil
  | cons s l => exact greedy_br W l [s] (by simp) (hs s (List.mem_cons_self ..)) (fun x h => hs x (List.mem_cons_of_mem _ h))
theorem greedyB_least (W : Int) (ws ls : List ByteArray) (h : Br W ws ls) : (greedyB W ws).length ≤ ls.length := by
  cases ws with
  | nil => exact Nat.zero_le _
  | cons s l => exact greedy_least W l [s] [] ls (by simp) h
theorem sameTexts_loop (a : List ByteArray) (hm : a.length ≤ 1048576) (d : Nat) : ∀ i : Nat, i + d = a.length → Ev (fun k => laws_sameTexts.l0 k a a (a.length : Int) (i : Int)) true := by
  induction d with
  | zero =>
    intro i h
    refine Ev.succ ?_
    simp only [laws_sameTexts.l0, if_neg (show ¬ ((i : Int) < (a.length : Int)) by omega)]
    exact Ev.now _
  | succ d ih =>
    intro i h
    refine Ev.succ ?_
    simp only [laws_sameTexts.l0, if_pos (show ((i : Int) < (a.length : Int)) by omega), if_pos (show (0 : Int) ≤ i by omega), if_true, w64 (show -9223372036854775808 ≤ (i : Int) + 1 by omega) (by omega)]
    exact ih (i + 1) (by omega)
theorem sameTexts_ev (a : List ByteArray) (hm : a.length ≤ 1048576) : Ev (fun k => laws_sameTexts.f k a a) true := by
  unfold laws_sameTexts.f
  simp only [if_true]
  exact sameTexts_loop a hm a.length 0 (by omega)

theorem break_br (W : Int) (ws : List ByteArray) (cuts : List Int) : ∀ (a : Nat) (o : List ByteArray), breakGo ws cuts a = some o → (∀ s ∈ o, (s.size : Int) ≤ W) → Br W (ws.drop a) o := by
  induction cuts with
  | nil =>
    intro a o h hs
    rw [breakGo] at h
    obtain rfl := Option.some.inj h
    by_cases ha : a < ws.length
    · rw [if_pos ha] at hs ⊢
      have hne : ws.drop a ≠ [] := by intro e; have := congrArg List.length e; rw [List.length_drop] at this; simp at this; omega
      have := Br.cons (W := W) hne (hs _ (by simp)) Br.nil
      rwa [List.append_nil] at this
    · rw [if_neg ha, List.drop_eq_nil_of_le (by omega)]
      exact Br.nil
  | cons k cs ih =>
    intro a o h hs
    rw [breakGo] at h
    by_cases hk : (a : Int) < k ∧ k < (ws.length : Int)
    · rw [if_pos hk] at h
      obtain ⟨o', h1, rfl⟩ := Option.map_eq_some_iff.1 h
      have hb := ih k.toNat o' h1 (fun s hm => hs s (List.mem_cons_of_mem _ hm))
      have hne : (ws.take k.toNat).drop a ≠ [] := by intro e; have := congrArg List.length e; rw [List.length_drop, List.length_take] at this; simp at this; omega
      have := Br.cons (W := W) hne (hs _ (List.mem_cons_self ..)) hb
      have e : (ws.take k.toNat).drop a ++ ws.drop k.toNat = ws.drop a := by
        have h3 : (ws.take k.toNat ++ ws.drop k.toNat).drop a = (ws.take k.toNat).drop a ++ ws.drop k.toNat := List.drop_append_of_le_length (by rw [List.length_take]; omega)
        rw [← h3, List.take_append_drop]
      rwa [e] at this
    · rw [if_neg hk] at h; cases h
theorem breakB_br (ws : List ByteArray) (cuts : List Int) (W : Int) (h : (breakB ws cuts W).2 = true) : Br W ws (breakB ws cuts W).1 := by
  unfold breakB at h ⊢
  cases hs : saidB ws W with
  | false => rw [hs] at h; simp at h
  | true =>
    rw [hs] at h
    simp only [if_true] at h ⊢
    cases hb : breakGo ws cuts 0 with
    | none => rw [hb] at h; simp [finB] at h
    | some o =>
      rw [hb] at h
      simp only [finB] at h ⊢
      by_cases ha : o.any (fun s => decide (W < (s.size : Int))) = true
      · rw [if_pos ha] at h; simp at h
      · rw [if_neg ha]
        have := break_br W ws cuts 0 o hb (fun s hm => by
          apply Decidable.byContradiction
          intro hc
          exact ha (List.any_eq_true.2 ⟨s, hm, decide_eq_true (by omega)⟩))
        rwa [List.drop_zero] at this
theorem breakB_sizes (ws : List ByteArray) (cuts : List Int) (W : Int) : ∀ s ∈ (breakB ws cuts W).1, s.size ≤ maxLen := by
  intro s hm
  unfold breakB at hm
  cases hs : saidB ws W with
  | false => rw [hs] at hm; simp at hm
  | true =>
    obtain ⟨_, _, _, h80, _⟩ := saidB_of hs
    rw [hs] at hm
    simp only [if_true] at hm
    cases hb : breakGo ws cuts 0 with
    | none => rw [hb] at hm; simp [finB] at hm
    | some o =>
      rw [hb] at hm
      simp only [finB] at hm
      by_cases ha : o.any (fun s => decide (W < (s.size : Int))) = true
      · rw [if_pos ha] at hm; simp at hm
      · rw [if_neg ha] at hm
        apply Decidable.byContradiction
        intro hc
        refine ha (List.any_eq_true.2 ⟨s, hm, decide_eq_true ?_⟩)
        unfold maxLen at hc
        omega
theorem bits255 (x : Int) : 0 ≤ wrap64 (Go.bits .and .u64 x 255) ∧ wrap64 (Go.bits .and .u64 x 255) ≤ 255 := by
  have h : ((BitVec.ofInt 64 x &&& BitVec.ofInt 64 255).toNat) ≤ 255 := by
    rw [BitVec.toNat_and]
    exact Nat.le_trans Nat.and_le_right (by decide)
  have e : Go.bits .and .u64 x 255 = (((BitVec.ofInt 64 x &&& BitVec.ofInt 64 255).toNat : Nat) : Int) := by
    unfold Go.bits
    show IntKind.u64.wrap (((BitVec.ofInt 64 x &&& BitVec.ofInt 64 255).toNat : Nat) : Int) = _
    generalize (BitVec.ofInt 64 x &&& BitVec.ofInt 64 255).toNat = n at h
    have hw : ∀ m : Nat, m ≤ 255 → IntKind.u64.wrap (m : Int) = (m : Int) := by
      intro m hm
      simp [IntKind.wrap, IntKind.bits, IntKind.signed]
      omega
    exact hw n h
  rw [e, w64 (by omega) (by omega)]
  omega
def okCode (code : List Int) : Prop := ∀ y ∈ code, 0 ≤ y ∧ y ≤ 255
theorem okCode_of {code : List Int} (h2 : ∀ y ∈ code, (Lit.int .u8 y).wf = true) : okCode code := fun y hy => by
  have := h2 y hy
  simp [Lit.wf, IntKind.min, IntKind.max, IntKind.bits, IntKind.signed] at this
  omega
theorem next_ok (code : List Int) (a s : Int) (hc : okCode code) (h0 : 0 ≤ a) (h1 : a ≤ 1000000000000) : ∃ r s', spec_l1Cur_next.f code a s = some (r, a + 1, s') ∧ 0 ≤ r ∧ r ≤ 255 := by
  have hw : wrap64 (a + 1) = a + 1 := w64 (by omega) (by omega)
  unfold spec_l1Cur_next.f
  rw [hw]
  by_cases hl : a < (code.length : Int)
  · have hrd : 0 ≤ rd code a ∧ rd code a ≤ 255 := by
      have hn : a.toNat < code.length := by omega
      have : rd code a = code[a.toNat] := by simp [rd, List.getD_eq_getElem?_getD, hn]
      rw [this]
      exact hc _ (List.getElem_mem hn)
    rw [if_pos hl, if_pos h0, if_pos (by omega)]
    exact ⟨_, _, rfl, by rw [w64 (by omega) (by omega)]; omega, by rw [w64 (by omega) (by omega)]; omega⟩
  · rw [if_neg hl, if_neg (by omega)]
    exact ⟨_, _, rfl, (bits255 _).1, (bits255 _).2⟩
theorem pick_ok (code : List Int) (a s n : Int) (hc : okCode code) (h0 : 0 ≤ a) (h1 : a ≤ 1000000000) (hn : n ≤ 1000000) : ∃ r a' s', spec_l1Cur_pick.f code a s n = some (r, a', s') ∧ 0 ≤ r ∧ (1 ≤ n → r < n) ∧ a ≤ a' ∧ a' ≤ a + 2 := by
  unfold spec_l1Cur_pick.f
  by_cases h : n ≤ 1
  · rw [if_pos h]; exact ⟨0, a, s, rfl, Int.le_refl 0, by omega, by omega, by omega⟩
  · rw [if_neg h]
    obtain ⟨r, s1, e1, hr0, hr1⟩ := next_ok code a s hc h0 (by omega)
    rw [e1, Option.bind_some]
    by_cases h2 : n > 200
    · rw [if_pos h2]
      simp only
      obtain ⟨r2, s2, e2, hq0, hq1⟩ := next_ok code (a + 1) s1 hc (by omega) (by omega)
      rw [e2, Option.bind_some, if_neg (by omega)]
      have hb : wrap64 (wrap64 (r * 256) + r2) = r * 256 + r2 := by rw [w64 (n := r * 256) (by omega) (by omega), w64 (by omega) (by omega)]
      exact ⟨_, _, _, rfl, by rw [hb]; exact Int.tmod_nonneg _ (by omega), fun _ => by rw [hb]; exact Int.tmod_lt_of_pos _ (by omega), by simp only; omega, by simp only; omega⟩
    · rw [if_neg h2, if_neg (by omega)]
      exact ⟨_, _, _, rfl, Int.tmod_nonneg _ hr0, fun _ => Int.tmod_lt_of_pos _ (by omega), by simp only; omega, by simp only; omega⟩
theorem one_ok (code : List Int) (a s n : Int) (hc : okCode code) (h0 : 0 ≤ a) (h1 : a ≤ 1000000000) (hn : n ≤ 1000000) : ∃ b a' s', spec_l1Cur_one.f code a s n = some (b, a', s') ∧ a ≤ a' ∧ a' ≤ a + 2 := by
  obtain ⟨r, a', s', e, _, _, h2, h3⟩ := pick_ok code a s n hc h0 h1 hn
  unfold spec_l1Cur_one.f
  rw [e, Option.bind_some]
  exact ⟨_, _, _, rfl, h2, h3⟩
theorem of_ok (code : List Int) (a s : Int) (l : List ByteArray) (hc : okCode code) (h0 : 0 ≤ a) (h1 : a ≤ 1000000000) (hl : 1 ≤ l.length) (hl2 : l.length ≤ 1000) : ∃ x a' s', spec_l1Cur_of.f code a s l = some (x, a', s') ∧ x ∈ l ∧ a ≤ a' ∧ a' ≤ a + 2 := by
  obtain ⟨r, a', s', e, h2, h3, h4, h5⟩ := pick_ok code a s (l.length : Int) hc h0 h1 (by omega)
  have h6 := h3 (by omega)
  have hi : r.toNat < l.length := by omega
  unfold spec_l1Cur_of.f
  rw [e, Option.bind_some]
  simp only [if_pos h2, if_pos h6]
  exact ⟨_, _, _, rfl, by rw [show r = ((r.toNat : Nat) : Int) by omega, rdOf_get _ l r.toNat hi]; exact List.getElem_mem _, h4, h5⟩
theorem among_ok (code : List Int) (a s : Int) (l : List Int) (hc : okCode code) (h0 : 0 ≤ a) (h1 : a ≤ 1000000000) (hl : 1 ≤ l.length) (hl2 : l.length ≤ 1000) : ∃ x a' s', spec_l1Cur_among.f code a s l = some (x, a', s') ∧ x ∈ l ∧ a ≤ a' ∧ a' ≤ a + 2 := by
  obtain ⟨r, a', s', e, h2, h3, h4, h5⟩ := pick_ok code a s (l.length : Int) hc h0 h1 (by omega)
  have h6 := h3 (by omega)
  have hi : r.toNat < l.length := by omega
  unfold spec_l1Cur_among.f
  rw [e, Option.bind_some]
  simp only [if_pos h2, if_pos h6]
  exact ⟨_, _, _, rfl, by have : rd l r = l[r.toNat] := (by simp [rd, List.getD_eq_getElem?_getD, hi]); rw [this]; exact List.getElem_mem _, h4, h5⟩
section
attribute [local go_sem] max2_int min2_int max_two min_two max_three min_three max_four min_four

end
def okWords (ws : List ByteArray) : Prop := ws.length ≤ 61 ∧ ∀ s ∈ ws, s.size ≤ 9
theorem words_loop (code : List Int) (hc : okCode code) (n : Nat) : ∀ (acc : List ByteArray) (a s : Int), n + acc.length ≤ 61 → (∀ x ∈ acc, x.size ≤ 9) → 0 ≤ a → a + 2 * n ≤ 900000000 →
    ∃ ws a' s', Ev (fun k => spec_l1Cur_words.l0 k acc (n : Int) code a s) (ws, a', s') ∧ okWords ws ∧ a ≤ a' ∧ a' ≤ a + 2 * n + 4 := by
  induction n with
  | zero =>
    intro acc a s hn hs h0 h1
    by_cases hl : (acc.length : Int) > 0
    · obtain ⟨b, a1, s1, e1, h2, h3⟩ := one_ok code a s 30 hc h0 (by omega) (by omega)
      cases b with
      | false =>
        refine ⟨acc, a1, s1, ?_, ⟨by omega, hs⟩, h2, by omega⟩
        refine Ev.succ ?_
        simp only [spec_l1Cur_words.l0, if_neg (show ¬ ((0 : Nat) : Int) > 0 by omega), if_pos hl, e1, Option.bind_some, Bool.false_eq_true, if_false]
        exact Ev.now _
      | true =>
        obtain ⟨x, a2, s2, e2, hx, h4, h5⟩ := of_ok code a1 s1 [(⟨#[]⟩ : ByteArray), (⟨#[97, 32, 98]⟩ : ByteArray), (⟨#[65]⟩ : ByteArray)] hc (by omega) (by omega) (by simp) (by simp)
        have hxs : x.size ≤ 9 := by
          simp only [List.mem_cons, List.not_mem_nil, or_false] at hx
          rcases hx with rfl | rfl | rfl <;> decide
        refine ⟨acc.set (0 : Int).toNat x, a2, s2, ?_, ⟨by rw [List.length_set]; omega, fun y hy => ?_⟩, by omega, by omega⟩
        · refine Ev.succ ?_
          simp only [spec_l1Cur_words.l0, if_neg (show ¬ ((0 : Nat) : Int) > 0 by omega), if_pos hl, e1, Option.bind_some, if_true, e2, if_pos (show 0 < (acc.length : Int) from hl)]
          exact Ev.now _
        · rcases List.mem_or_eq_of_mem_set hy with h | h
          · exact hs y h
          · rw [h]; exact hxs
    · refine ⟨acc, a, s, ?_, ⟨by omega, hs⟩, Int.le_refl _, by omega⟩
      refine Ev.succ ?_
      simp only [spec_l1Cur_words.l0, if_neg (show ¬ ((0 : Nat) : Int) > 0 by omega), if_neg hl]
      exact Ev.now _
  | succ n ih =>
    intro acc a s hn hs h0 h1
    obtain ⟨x, a1, s1, e1, hx, h2, h3⟩ := of_ok code a s [(⟨#[97]⟩ : ByteArray), (⟨#[116, 111]⟩ : ByteArray), (⟨#[116, 104, 101]⟩ : ByteArray), (⟨#[119, 111, 114, 100]⟩ : ByteArray), (⟨#[108, 105, 110, 101, 115]⟩ : ByteArray), (⟨#[98, 114, 111, 107, 101, 110]⟩ : ByteArray), (⟨#[112, 97, 114, 97, 103, 114, 97, 112, 104]⟩ : ByteArray)] hc h0 (by omega) (by simp) (by simp)
    have hxs : x.size ≤ 9 := by
      simp only [List.mem_cons, List.not_mem_nil, or_false] at hx
      rcases hx with rfl | rfl | rfl | rfl | rfl | rfl | rfl <;> decide
    obtain ⟨ws, a', s', he, ho, h4, h5⟩ := ih (acc ++ [x]) a1 s1 (by rw [List.length_append, List.length_singleton]; omega) (fun y hy => by
      rcases List.mem_append.1 hy with h | h
      · exact hs y h
      · rw [List.mem_singleton.1 h]; exact hxs) (by omega) (by omega)
    refine ⟨ws, a', s', ?_, ho, by omega, by omega⟩
    refine Ev.succ ?_
    simp only [spec_l1Cur_words.l0, if_pos (show ((n + 1 : Nat) : Int) > 0 by omega), e1, Option.bind_some, if_pos (show acc.length < 8796093022208 by omega), w64 (show -9223372036854775808 ≤ ((n + 1 : Nat) : Int) - 1 by omega) (by omega)]
    rw [show ((n + 1 : Nat) : Int) - 1 = (n : Int) by omega]
    exact he
theorem words_ok (code : List Int) (a s : Int) (hc : okCode code) (h0 : 0 ≤ a) (h1 : a ≤ 800000000) : ∃ ws a' s', Ev (fun k => spec_l1Cur_words.f k code a s) (ws, a', s') ∧ okWords ws ∧ a ≤ a' ∧ a' ≤ a + 200 := by
  obtain ⟨r, a1, s1, e1, hr0, hr1, h2, h3⟩ := pick_ok code a s 12 hc h0 (by omega) (by omega)
  have hr2 := hr1 (by omega)
  obtain ⟨b, a2, s2, e2, h4, h5⟩ := one_ok code a1 s1 30 hc (by omega) (by omega) (by omega)
  cases b with
  | false =>
    obtain ⟨ws, a', s', he, ho, h6, h7⟩ := words_loop code hc r.toNat [] a2 s2 (by simp; omega) (by simp) (by omega) (by omega)
    refine ⟨ws, a', s', ?_, ho, by omega, by omega⟩
    unfold spec_l1Cur_words.f
    simp only [e1, e2, Option.bind_some, Bool.false_eq_true, if_false]
    refine Ev.succ ?_
    simp only [spec_l1Cur_words.j0]
    rw [show r = ((r.toNat : Nat) : Int) by omega]
    exact he
  | true =>
    obtain ⟨r2, a3, s3, e3, hq0, hq1, h8, h9⟩ := pick_ok code a2 s2 2 hc (by omega) (by omega) (by omega)
    have hq2 := hq1 (by omega)
    obtain ⟨ws, a', s', he, ho, h6, h7⟩ := words_loop code hc (60 + r2).toNat [] a3 s3 (by simp; omega) (by simp) (by omega) (by omega)
    refine ⟨ws, a', s', ?_, ho, by omega, by omega⟩
    unfold spec_l1Cur_words.f
    simp only [e1, e2, e3, Option.bind_some, if_true]
    refine Ev.succ ?_
    simp only [spec_l1Cur_words.j0]
    rw [w64 (by omega) (by omega), show 60 + r2 = (((60 + r2).toNat : Nat) : Int) by omega]
    exact he
theorem width_ok (code : List Int) (a s : Int) (hc : okCode code) (h0 : 0 ≤ a) (h1 : a ≤ 800000000) : ∃ W a' s', spec_l1Cur_width.f code a s = some (W, a', s') ∧ a ≤ a' ∧ a' ≤ a + 4 := by
  obtain ⟨b, a2, s2, e2, h4, h5⟩ := one_ok code a s 30 hc h0 (by omega) (by omega)
  unfold spec_l1Cur_width.f
  rw [e2, Option.bind_some]
  cases b with
  | true =>
    obtain ⟨x, a3, s3, e3, _, h6, h7⟩ := among_ok code a2 s2 [0, 80, 81] hc (by omega) (by omega) (by simp) (by simp)
    simp only [if_true, e3, Option.bind_some]
    exact ⟨_, _, _, rfl, by omega, by omega⟩
  | false =>
    obtain ⟨x, a3, s3, e3, _, _, h6, h7⟩ := pick_ok code a2 s2 20 hc (by omega) (by omega) (by omega)
    simp only [Bool.false_eq_true, if_false, e3, Option.bind_some]
    exact ⟨_, _, _, rfl, by omega, by omega⟩
theorem drawBest_ok (code : List Int) (hc : okCode code) : ∃ ws W, Ev (fun k => spec_DrawBestLines.f k code) (ws, W) ∧ okWords ws := by
  obtain ⟨ws, a1, s1, he, ho, h2, h3⟩ := words_ok code 0 0 hc (by omega) (by omega)
  obtain ⟨W, a2, s2, e2, h4, h5⟩ := width_ok code a1 s1 hc (by omega) (by omega)
  refine ⟨ws, W, ?_, ho⟩
  unfold spec_DrawBestLines.f spec_DrawGreedyLines.f
  have hg : Ev (fun k => (spec_l1Cur_words.f k code 0 0).bind fun bt102 => ((spec_l1Cur_width.f code bt102.2.1 bt102.2.2).bind fun bt107 => (some (bt102.1, bt107.1)))) (ws, W) := by
    refine Ev.bind he ?_
    simp only [e2, Option.bind_some]
    exact Ev.now _
  refine Ev.bind hg ?_
  exact Ev.now _
theorem cuts_loop (code : List Int) (hc : okCode code) (ws : List ByteArray) (n : Nat) : ∀ (cuts : List Int) (at_ a s : Int), n + cuts.length ≤ 6 → 0 ≤ a → a + 2 * n ≤ 700000000 →
    ∃ cs W, Ev (fun k => spec_DrawBreakAt.l0 k ws cuts at_ (n : Int) code a s) (ws, cs, W) ∧ cs.length ≤ 6 := by
  induction n with
  | zero =>
    intro cuts at_ a s hn h0 h1
    obtain ⟨W, a2, s2, e2, h4, h5⟩ := width_ok code a s hc h0 (by omega)
    obtain ⟨r, a3, s3, e3, _, _, h6, h7⟩ := pick_ok code a2 s2 30 hc (by omega) (by omega) (by omega)
    refine ⟨cuts, wrap64 (W + r), ?_, by omega⟩
    refine Ev.succ ?_
    simp only [spec_DrawBreakAt.l0, if_neg (show ¬ ((0 : Nat) : Int) > 0 by omega), e2, e3, Option.bind_some]
    exact Ev.now _
  | succ n ih =>
    intro cuts at_ a s hn h0 h1
    obtain ⟨r, a3, s3, e3, _, _, h6, h7⟩ := pick_ok code a s 3 hc (by omega) (by omega) (by omega)
    obtain ⟨cs, W, he, hl⟩ := ih (cuts ++ [wrap64 (at_ + (wrap64 (1 + r)))]) (wrap64 (at_ + (wrap64 (1 + r)))) a3 s3 (by rw [List.length_append, List.length_singleton]; omega) (by omega) (by omega)
    refine ⟨cs, W, ?_, hl⟩
    refine Ev.succ ?_
    simp only [spec_DrawBreakAt.l0, if_pos (show ((n + 1 : Nat) : Int) > 0 by omega), e3, Option.bind_some, if_pos (show cuts.length < 17592186044416 by omega), w64 (show -9223372036854775808 ≤ ((n + 1 : Nat) : Int) - 1 by omega) (by omega)]
    rw [show ((n + 1 : Nat) : Int) - 1 = (n : Int) by omega]
    exact he
theorem drawBreak_ok (code : List Int) (hc : okCode code) : ∃ ws cs W, Ev (fun k => spec_DrawBreakAt.f k code) (ws, cs, W) ∧ cs.length ≤ 6 := by
  obtain ⟨ws, a1, s1, he, ho, h2, h3⟩ := words_ok code 0 0 hc (by omega) (by omega)
  obtain ⟨r, a2, s2, e2, hr0, hr1, h4, h5⟩ := pick_ok code a1 s1 6 hc (by omega) (by omega) (by omega)
  have hr2 := hr1 (by omega)
  obtain ⟨cs, W, hl, hcl⟩ := cuts_loop code hc ws r.toNat [] 0 a2 s2 (by simp; omega) (by omega) (by omega)
  refine ⟨ws, cs, W, ?_, hcl⟩
  unfold spec_DrawBreakAt.f
  refine Ev.bind he ?_
  simp only [e2, Option.bind_some]
  rw [show r = ((r.toNat : Nat) : Int) by omega]
  exact hl
def greedyOf (ws : List ByteArray) (w : Int) : List ByteArray × Bool := if saidB ws w = true then (greedyB w ws, true) else ([], false)
theorem impl_GreedyLines_ev (ws : List ByteArray) (w : Int) (hs : ∀ s ∈ ws, s.size ≤ maxLen) : Ev (fun k => impl_GreedyLines.f k ws w) (greedyOf ws w) := by
  unfold impl_GreedyLines.f greedyOf
  simp only [allFit_val ws w hs, Option.bind_some]
  cases hq : saidB ws w with
  | false => simp only [Bool.false_eq_true, if_false]; exact Ev.now _
  | true =>
    obtain ⟨g1, g2, _, g4, _⟩ := saidB_of hq
    simp only [if_true]
    refine Ev.bind (impl_greedy_ev ws w g4 g1 (fun s h => (g2 s h).2.1)) ?_
    exact Ev.now _
end Go.Proofs.Ytokklflckaikgaa.X
namespace Go.Proofs.Ytokklflckaikgaa.Pure
open Go.RowKit Go.Proofs.Ytokklflckaikgaa.X Go.Proofs.YtokklflckaikgaaW.PrintWords Go.Proofs.YtokklflckaikgaaW.PrintLast
section
variable (more : List Int) (ws : List ByteArray) (W : Int) (l : List ByteArray) (cost : Int) (v : Bool)
theorem l0_loop (hl : ws.length ≤ 1000000) (hs : ∀ s ∈ ws, s.size ≤ 1048576) (d : Nat) : ∀ (i : Nat) (acc : ByteArray), 0 < i → i + d = ws.length → acc.size ≤ i * 1048577 →
    Ev (fun k => laws_FnLines.l1 k more ws W l cost (joinGo acc (ws.drop i)) (⟨#[]⟩ : ByteArray) l (l.length : Int) 0) v → Ev (fun k => laws_FnLines.l0 k more ws W l cost acc ws (ws.length : Int) (i : Int)) v := by
  induction d with
  | zero =>
    intro i acc h0 h ha hf
    refine Ev.succ ?_
    simp only [laws_FnLines.l0, if_neg (show ¬ ((i : Int) < (ws.length : Int)) by omega)]
    rwa [List.drop_eq_nil_of_le (by omega)] at hf
  | succ d ih =>
    intro i acc h0 h ha hf
    have e : ws.drop i = ws[i] :: ws.drop (i + 1) := List.drop_eq_getElem_cons (by omega)
    have hz := hs ws[i] (List.getElem_mem (by omega))
    refine Ev.succ ?_
    simp only [laws_FnLines.l0, if_pos (show ((i : Int) < (ws.length : Int)) by omega), if_pos (show (0 : Int) ≤ i by omega), if_pos (show (i : Int) > 0 by omega), rdOf_get _ ws i (by omega), w64 (show -9223372036854775808 ≤ (i : Int) + 1 by omega) (by omega), if_pos (show acc.size + 1 ≤ 9223372036854775807 by omega)]
    simp only [if_pos (show (acc ++ (⟨#[32]⟩ : ByteArray)).size + ws[i].size ≤ 9223372036854775807 by rw [ByteArray.size_append]; show acc.size + 1 + _ ≤ _; omega)]
    rw [e, joinGo] at hf
    refine ih (i + 1) _ (by omega) (by omega) ?_ hf
    rw [ByteArray.size_append, ByteArray.size_append]
    show acc.size + 1 + _ ≤ _
    omega
theorem l0_ev (hl : ws.length ≤ 1000000) (hs : ∀ s ∈ ws, s.size ≤ 1048576) (hf : Ev (fun k => laws_FnLines.l1 k more ws W l cost (joinB ws) (⟨#[]⟩ : ByteArray) l (l.length : Int) 0) v) :
    Ev (fun k => laws_FnLines.l0 k more ws W l cost (⟨#[]⟩ : ByteArray) ws (ws.length : Int) 0) v := by
  cases ws with
  | nil =>
    refine Ev.succ ?_
    simp only [laws_FnLines.l0, List.length_nil]
    exact hf
  | cons s r =>
    have hz := hs s (List.mem_cons_self ..)
    refine Ev.succ ?_
    have e0 : rdOf ByteArray.empty (s :: r) 0 = s := rfl
    simp only [laws_FnLines.l0, if_pos (show (0 : Int) < ((s :: r).length : Int) by rw [List.length_cons]; omega), if_pos (show (0 : Int) ≤ 0 by omega), if_neg (show ¬ (0 : Int) > 0 by omega), e0, w64 (show -9223372036854775808 ≤ (0 : Int) + 1 by omega) (by omega)]
    have z0 : (⟨#[]⟩ : ByteArray).size = 0 := rfl
    have z1 : (⟨#[]⟩ : ByteArray) ++ s = s := ByteArray.empty_append
    simp only [z0, if_pos (show 0 + s.size ≤ 9223372036854775807 by omega), z1]
    exact l0_loop more (s :: r) W l cost v hl hs r.length 1 s (by omega) (by rw [List.length_cons]; omega) (by omega) hf
theorem l1_loop (all : ByteArray) (hl : l.length ≤ 1000000) (hs : ∀ s ∈ l, s.size ≤ 1048576) (hw : ∀ s ∈ l, (s.size : Int) ≤ W) (d : Nat) : ∀ (i : Nat) (acc : ByteArray), 0 < i → i + d = l.length → acc.size ≤ i * 1048577 →
    Ev (fun k => laws_FnLines.l1 k more ws W l cost all (joinGo acc (l.drop i)) l (l.length : Int) (l.length : Int)) v → Ev (fun k => laws_FnLines.l1 k more ws W l cost all acc l (l.length : Int) (i : Int)) v := by
  induction d with
  | zero =>
    intro i acc h0 h ha hf
    rw [List.drop_eq_nil_of_le (by omega)] at hf
    rwa [show (l.length : Int) = (i : Int) by omega] at hf ⊢
  | succ d ih =>
    intro i acc h0 h ha hf
    have e : l.drop i = l[i] :: l.drop (i + 1) := List.drop_eq_getElem_cons (by omega)
    have hz := hs l[i] (List.getElem_mem (by omega))
    have hzw := hw l[i] (List.getElem_mem (by omega))
    refine Ev.succ ?_
    simp only [laws_FnLines.l1, if_pos (show ((i : Int) < (l.length : Int)) by omega), if_pos (show (0 : Int) ≤ i by omega), if_pos (show (i : Int) > 0 by omega), rdOf_get _ l i (by omega), w64 (show -9223372036854775808 ≤ (i : Int) + 1 by omega) (by omega), if_pos (show acc.size + 1 ≤ 9223372036854775807 by omega), if_neg (show ¬ (l[i].size : Int) > W by omega)]
    simp only [if_pos (show (acc ++ (⟨#[32]⟩ : ByteArray)).size + l[i].size ≤ 9223372036854775807 by rw [ByteArray.size_append]; show acc.size + 1 + _ ≤ _; omega)]
    rw [e, joinGo] at hf
    refine ih (i + 1) _ (by omega) (by omega) ?_ hf
    rw [ByteArray.size_append, ByteArray.size_append]
    show acc.size + 1 + _ ≤ _
    omega
theorem l1_ev (all : ByteArray) (hl : l.length ≤ 1000000) (hs : ∀ s ∈ l, s.size ≤ 1048576) (hw : ∀ s ∈ l, (s.size : Int) ≤ W) (hf : Ev (fun k => laws_FnLines.l1 k more ws W l cost all (joinB l) l (l.length : Int) (l.length : Int)) v) :
    Ev (fun k => laws_FnLines.l1 k more ws W l cost all (⟨#[]⟩ : ByteArray) l (l.length : Int) 0) v := by
  cases l with
  | nil => exact hf
  | cons s r =>
    have hz := hs s (List.mem_cons_self ..)
    have hzw := hw s (List.mem_cons_self ..)
    refine Ev.succ ?_
    have e0 : rdOf ByteArray.empty (s :: r) 0 = s := rfl
    simp only [laws_FnLines.l1, if_pos (show (0 : Int) < ((s :: r).length : Int) by rw [List.length_cons]; omega), if_pos (show (0 : Int) ≤ 0 by omega), if_neg (show ¬ (0 : Int) > 0 by omega), e0, w64 (show -9223372036854775808 ≤ (0 : Int) + 1 by omega) (by omega)]
    have z0 : (⟨#[]⟩ : ByteArray).size = 0 := rfl
    have z1 : (⟨#[]⟩ : ByteArray) ++ s = s := ByteArray.empty_append
    simp only [z0, if_pos (show 0 + s.size ≤ 9223372036854775807 by omega), z1, if_neg (show ¬ (s.size : Int) > W by omega)]
    exact l1_loop more ws W (s :: r) cost v all hl hs hw r.length 1 s (by omega) (by rw [List.length_cons]; omega) (by omega) hf
end

theorem FnLines : PureFnLines := by
  intro code more ⟨hcl, hcw⟩ ⟨hml, hmw⟩
  refine Ev.rounds ?_
  unfold laws_FnLines.f
  by_cases hc : wrap64 ((code.length : Int) + (more.length : Int)) > 1048576
  · simp only [if_pos hc]; exact Ev.now _
  simp only [if_neg hc]
  have hoc := okCode_of hcw
  have hom := okCode_of hmw
  obtain ⟨ws, W, hd, hwl, hws⟩ := drawBest_ok code hoc
  have hs : ∀ s ∈ ws, s.size ≤ maxLen := fun s h => by have := hws s h; unfold maxLen; omega
  refine Ev.bind hd ?_
  simp only [impl_BestLines.val ws W hs, spec_BestLines.val ws W (by unfold maxLen; omega) hs, Option.bind_some, bne_self_eq_false, Bool.false_eq_true, if_false, if_true]
  cases hsd : saidB ws W with
  | false =>
    have hb : bestB ws W = ([], 0, false) := by simp [bestB, hsd]
    rw [hb]
    refine Ev.bind (sameTexts_ev [] (by simp)) ?_
    refine Ev.succ ?_
    simp only [laws_FnLines.j0, Bool.not_true, Bool.false_eq_true, if_false]
    exact Ev.now _
  | true =>
    obtain ⟨h60, hsz, hW1, hW80, _⟩ := saidB_of hsd
    have hb : bestB ws W = (linesB ws (tabB W ws) (ws.length + 1) 0, (headB W ws).c, true) := by simp [bestB, hsd, headB]
    obtain ⟨hbr, hco⟩ := lines_br W ws (fun s h => (hsz s h).2.2) (ws.length + 1) 0 (Nat.zero_le _) (by omega)
    rw [List.drop_zero] at hbr hco
    rw [hb]
    generalize linesB ws (tabB W ws) (ws.length + 1) 0 = l at hbr hco
    have hlen := hbr.length
    have hls := hbr.sizes (fun s h => (hsz s h).1)
    have hcl2 := hbr.cost (fun s h => (hsz s h).1) h60 hW1 hW80
    have hgb := greedyB_br W ws (fun s h => (hsz s h).2.2)
    have hgl := greedyB_least W ws
    have hgc := hgb.cost (fun s h => (hsz s h).1) h60 hW1 hW80
    have hgo : greedyOf ws W = (greedyB W ws, true) := by simp [greedyOf, hsd]
    have hge := impl_GreedyLines_ev ws W hs
    rw [hgo] at hge
    have hgs := hgb.sizes (fun s h => (hsz s h).1)
    have hgh := head_le hgb
    refine Ev.bind (sameTexts_ev l (by omega)) ?_
    refine Ev.succ ?_
    simp only [laws_FnLines.j0, Bool.not_true, Bool.false_eq_true, if_false, if_true]
    refine l0_ev more ws W l _ true (by omega) (fun s h => by have := hws s h; omega) ?_
    refine l1_ev more ws W l _ true _ (by omega) (fun s h => by have := hls s h; omega) (fun s h => (hls s h).2) ?_
    refine Ev.succ ?_
    simp only [laws_FnLines.l1, if_neg (show ¬ (l.length : Int) < (l.length : Int) by omega)]
    refine Ev.bind (ev_eq (impl_CostOfLines_ev l W (fun s h => by have := hls s h; unfold maxLen; omega)) hcl2) ?_
    refine Ev.bind hge ?_
    refine Ev.bind (ev_eq (impl_CostOfLines_ev (greedyB W ws) W (fun s h => by have := hgs s h; unfold maxLen; omega)) hgc) ?_
    rw [hbr.join]
    simp only [if_true, hco]
    rw [decide_eq_false (show ¬ costs W (greedyB W ws) < (headB W ws).c by omega)]
    refine Ev.succ ?_
    simp only [laws_FnLines.j3, Bool.false_eq_true, if_false]
    obtain ⟨ws', cs, W', hdb, hcs⟩ := drawBreak_ok more hom
    refine Ev.bind hdb ?_
    simp only [impl_BreakAt.val ws cs W hs (by omega), Option.bind_some]
    refine Ev.bind (spec_BreakAt_ev ws cs W (by unfold maxLen; omega) hs (by omega)) ?_
    have hbl := breakB_length ws cs W
    have hbz := breakB_sizes ws cs W
    have hbb := breakB_br ws cs W
    generalize breakB ws cs W = o at hbl hbz hbb
    obtain ⟨o1, o2⟩ := o
    simp only at hbl hbz hbb
    simp only [bne_self_eq_false, Bool.false_eq_true, if_false]
    refine Ev.bind (sameTexts_ev o1 (by omega)) ?_
    simp only [if_true]
    refine Ev.bind (impl_CostOfLines_ev o1 W hbz) ?_
    cases o2 with
    | false => simp only [Bool.false_eq_true, if_false]; exact Ev.now _
    | true =>
      have hob := hbb rfl
      have h1 := head_le hob
      have h2 := hgl o1 hob
      rw [hob.cost (fun s h => (hsz s h).1) h60 hW1 hW80]
      simp only [if_true, if_pos (show costs W o1 ≥ (headB W ws).c from h1)]
      refine ev_eq (Ev.now _) ?_
      exact decide_eq_true (by omega)
end Go.Proofs.Ytokklflckaikgaa.Pure
namespace Go.Proofs.Ytokklflckaikgaa.fnLines
open Go.ChangeShapes Go.WideShapes Go.ChangeAt Go.RowKit
open Go.ChangeMaps (open_string shut_string)
open Go.Proofs.YtokklflckaikgaaW.PrintWords Go.Proofs.Ytokklflckaikgaa.X
set_option linter.unusedVariables false
theorem own : ownKnob Try.prog.godebug = none := by kernel_rfl
theorem laidOut : laidOutB Try.prog = true := by kernel_rfl
set_option maxRecDepth 100000 in
theorem lifted (os : Os) (started : os.Started) (H : Type) (enc : TypeId × Value → H) :
    ReturnsInHanded {} Try.checked os 3 .any (Rows.fnLinesSpec.pre6 enc Try.prog Try.f3 Rows.fnLinesRow.domain false) (Rows.fnLinesSpec.post enc Try.prog Try.f3 false true false false) := by
  refine returnsInHanded_of_change_sized (C := Try.checked) own started (by kernel_rfl) Try.func3
    (ChangeSpec.witness6 (enc := enc) (C := Try.checked) false ⟨#[], #[.slice none 0 0, .slice none 0 0], []⟩ 8 (by kernel_rfl) (by kernel_rfl) (by kernel_rfl) (by kernel_rfl)) ?_
  intro W base args ds gs before hval0 hW hcnd hsz0 _
  have hval : ∀ (j : Nat) t v, Try.f3.params[j]? = some t → args[j]? = some v → Value.okWide Try.prog W .any base t v := hval0
  have hW' := hW
  obtain ⟨p, q, hA0, hV, rfl, hfz, hnd⟩ := hW
  have hA : DataW.TrodAll enc Try.prog W 0 (fun _ => true) true Try.f3.params.toList args.toList ds p := hA0
  rw [Try.params3] at hA hval
  obtain ⟨v0, vs0, d0, ds0, p0, q0, hargs, rfl, rfl, h0, r0⟩ := trodAll_cons hA
  obtain ⟨v1, vs1, d1, ds1, p1, q1, rfl, rfl, rfl, h1, r1⟩ := trodAll_cons r0
  obtain ⟨rfl, rfl, rfl⟩ := trodAll_nil r1
  obtain rfl : args = #[v0, v1] := by cases args; simp_all
  obtain ⟨rfl, rfl⟩ := trodVars_none hV
  have k0 := h0
  have lt0 : ∀ x ∈ p0, x.block < W.heap.size := by obtain ⟨m, hm⟩ := k0; exact DataW.trod_lt m _ _ _ hm
  obtain ⟨fuel0, hf0⟩ := h0
  obtain ⟨A0_, len0, cap0, rfl⟩ := okWide_slice Try.underlying22 (hval 0 22 v0 rfl rfl)
  obtain ⟨l0, ⟨A0, c0, he0, hc0, hr0⟩, b0⟩ := (opens_slice Try.underlying22 (by kernel_rfl) (opens_int Try.underlying5)) H enc W _ _ _ hf0
  simp only [Value.cells, List.cons.injEq, Value.slice.injEq, and_true] at he0
  obtain ⟨rfl, rfl, rfl⟩ := he0
  have k1 := h1
  have lt1 : ∀ x ∈ p1, x.block < W.heap.size := by obtain ⟨m, hm⟩ := k1; exact DataW.trod_lt m _ _ _ hm
  obtain ⟨fuel1, hf1⟩ := h1
  obtain ⟨A1_, len1, cap1, rfl⟩ := okWide_slice Try.underlying22 (hval 1 22 v1 rfl rfl)
  obtain ⟨l1, ⟨A1, c1, he1, hc1, hr1⟩, b1⟩ := (opens_slice Try.underlying22 (by kernel_rfl) (opens_int Try.underlying5)) H enc W _ _ _ hf1
  simp only [Value.cells, List.cons.injEq, Value.slice.injEq, and_true] at he1
  obtain ⟨rfl, rfl, rfl⟩ := he1
  clear hA0 hval0 hsz0
  have hP : PureFnLines := Pure.FnLines
  obtain ⟨k, hk⟩ := hP l0 l1 b0 b1
  refine (laws_FnLines.calls k _ _ l0 _ _ l1 true W hr0 hc0 hr1 hc1 hk).mono fun e W' ⟨he, bel0⟩ => ?_
  have bel : Below W.heap.size W W' := bel0
  subst he
  exact ⟨_, rfl, _, _, _, [], _, [], hW', trodAll_mk1 (shut_bool Try.underlying4 _), (trodAll_cons_mk (Below.trod laidOut (by kernel_rfl) (of_decide_eq_true (by kernel_rfl)) k0 bel lt0) (trodAll_cons_mk (Below.trod laidOut (by kernel_rfl) (of_decide_eq_true (by kernel_rfl)) k1 bel lt1) trodAll_mk0)), rfl, bel.frame _, fun h => by cases h⟩
theorem over : Rows.fnLinesRow.holds Try.pinned (OpenSpec.ofChange Rows.fnLinesSpec) :=
  OpenClaim.holds_of_wide 3 Try.f3 rfl rfl rfl rfl rfl rfl rfl ⟨rfl, rfl, rfl, rfl, rfl⟩ rfl rfl rfl rfl rfl (by kernel_rfl) Try.func3 (by kernel_rfl)
    (of_decide_eq_true (by kernel_rfl)) (by unfold Func.isWrapper; first | (rw [if_pos (by decide +kernel)]; kernel_rfl) | (rw [if_neg (by decide +kernel)]; exact ⟨rfl, rfl⟩))
    (fun os started H enc _ => lifted os started H enc)
theorem proved : Rows.FnLinesSaid := over
#print axioms proved
end Go.Proofs.Ytokklflckaikgaa.fnLines
namespace Go.Proofs.Ytokklflckaikgaa
theorem fnLines_holds : Rows.FnLinesSaid := fnLines.proved
end Go.Proofs.Ytokklflckaikgaa
