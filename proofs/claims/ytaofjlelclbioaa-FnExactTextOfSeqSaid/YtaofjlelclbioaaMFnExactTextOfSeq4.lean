/- The law FnExactTextOfSeq of the program: its proof, part 4. -/
import Derived.Test.YtaofjlelclbioaaMFnExactTextOfSeq1
import Derived.Test.YtaofjlelclbioaaMFnExactTextOfSeq2
import Derived.Test.YtaofjlelclbioaaMFnExactTextOfSeq3
import Derived.Test.YtaofjlelclbioaaRows
import Derived.WalkKit
import Derived.ProofKit
import Derived.OpenShut
import Derived.ShutString
import Derived.ChangeOld
import Derived.Below
import Derived.SizedLaws
set_option linter.unusedVariables false
set_option linter.unusedSimpArgs false
namespace Go.Proofs.Ytaofjlelclbioaa.X
open Go.RowKit Go.Proofs.YtaofjlelclbioaaW.PrintWords Go.Proofs.YtaofjlelclbioaaW.PrintLast Go.Proofs.YtaofjlelclbioaaW.PrintMore
section
attribute [local go_sem] max2_int min2_int max_two min_two max_three min_three max_four min_four
def spec_TextOfSeq.l0 : Nat → ByteArray → List Int → Int → Int → List (S61) → Option (ByteArray × Bool)
  | 0, _, _, _, _, _ => none
  | k + 1, x4, x11, x12, x13, x102000 => if x13 < x12 then (if 0 ≤ x13 then (if x13 < (x11.length : Int) then (if 0 ≤ (rd x11 x13) then (if (rd x11 x13) < (x102000.length : Int) then (if x4.size + ((rd_T61 x102000 (rd x11 x13)).f4).size ≤ 9223372036854775807 then (spec_TextOfSeq.l0 k (x4 ++ ((rd_T61 x102000 (rd x11 x13)).f4)) x11 x12 (wrap64 (x13 + 1)) x102000) else (none)) else (none)) else (none)) else (none)) else (none)) else (some (x4, true))
def spec_TextOfSeq.f (k : Nat) (l0_0 : List (S61)) : Option (ByteArray × Bool) := (spec_GoodSeq.f k l0_0).bind fun t102 => (if t102 = true then ((spec_l17Shown.f k l0_0).bind fun t103 => (spec_TextOfSeq.l0 k (⟨#[]⟩ : ByteArray) t103 (t103.length : Int) 0 l0_0)) else (some ((⟨#[]⟩ : ByteArray), false)))
set_option maxHeartbeats 8000000 in
set_option maxRecDepth 100000 in
theorem spec_TextOfSeq.calls (k : Nat) (A0_0 : Option Addr) (c0_0 : Nat) (l0_0 : List (S61)) (r1 : ByteArray) (r2 : Bool) (w : World) (hr0_0 : Kd.C k61 w A0_0 l0_0.length l0_0) (hc0_0 : l0_0.length ≤ c0_0) (h : spec_TextOfSeq.f k l0_0 = some (r1, r2)) :
    Calls Try.prog 19 #[.agg #[.slice A0_0 l0_0.length c0_0]] w fun e w' => e = .returned (.tuple #[.string r1, .bool r2]) ∧ Below w.heap.size w w' := by
  have hu29 := Try.underlying29
  have HR0_0 := mz hr0_0
  have HC0_0 := mz hc0_0
  clear hr0_0 hc0_0
  have HB := mz (Below.refl w.heap.size w)
  have H : ((spec_GoodSeq.f k l0_0).bind fun t102 => (if t102 = true then ((spec_l17Shown.f k l0_0).bind fun t103 => (spec_TextOfSeq.l0 k (⟨#[]⟩ : ByteArray) t103 (t103.length : Int) 0 l0_0)) else (some ((⟨#[]⟩ : ByteArray), false)))) = some (r1, r2) := h
  clear h
  replace H := be0_ H
  obtain ⟨t102, A20, H⟩ := H
  replace H : (if t102 = true then ((spec_l17Shown.f k l0_0).bind fun t103 => (spec_TextOfSeq.l0 k (⟨#[]⟩ : ByteArray) t103 (t103.length : Int) 0 l0_0)) else (some ((⟨#[]⟩ : ByteArray), false))) = some (r1, r2) := H
  have A2 := mz A20
  clear A20
  by_cases c3 : t102 = true
  · subst c3
    have H1 : ((spec_l17Shown.f k l0_0).bind fun t103 => (spec_TextOfSeq.l0 k (⟨#[]⟩ : ByteArray) t103 (t103.length : Int) 0 l0_0)) = some (r1, r2) := by rw [if_pos rfl] at H; exact H
    clear H
    have H := H1
    clear H1
    replace H := be0_ H
    obtain ⟨t103, A40, H⟩ := H
    replace H : (spec_TextOfSeq.l0 k (⟨#[]⟩ : ByteArray) t103 (t103.length : Int) 0 l0_0) = some (r1, r2) := H
    have A4 := mz A40
    clear A40
    have H' := mz H
    clear H
    go_enter Try.func19, Try.ntmps19
    go_wp2_with (first | ((with_reducible refine gate_dst (N := 1) rfl ?_); refine box_event ?hg (N := 1) ?hd (cs := #[.slice A0_0 l0_0.length c0_0]) (t := 29) ?hr ?_; (case hd => rfl); (case hg => rfl); (case hr => first | (go_simp; done) | (go_simp; rfl)); intro gb101 hg w5 hbox hb; have n0_ := mz (below_step (by repeat (first | (with_reducible first | exact HB.out | apply below_alloc | apply pw_below_drewN | apply below_drew1) | exact HB.out)) hb); have n1_ := mz (hbox); have n2_ := mz ((by rw [hg]; exact (below_size (by repeat (first | (with_reducible first | exact HB.out | apply below_alloc | apply pw_below_drewN | apply below_drew1) | exact HB.out))) : w.heap.size ≤ gb101)); have n3_ := mz ((by rw [hg]; exact (below_size (by repeat (first | (with_reducible first | exact HB.out | apply below_alloc | apply pw_below_drewN | apply below_drew1) | exact HB.out))) : w.heap.size ≤ gb101)); clear HB; have HB := n0_; have BK101 := n1_; have GW101 := n2_; have GE101 := n3_; clear n0_ n1_ n2_ n3_; clear hb hbox hg; have hcz6_0 : w5.cell? ⟨gb101, 0, none⟩ = some (.slice A0_0 l0_0.length c0_0) := (blk_cell BK101.out 0).trans rfl; have hfz6_0 := blk_frozen BK101.out 0) | ((with_reducible refine gate_callee (f := 13) rfl ?_); refine goesL_ (some 8) rfl rfl Try.func13 (by kernel_rfl) rfl #[.agg #[.slice A0_0 l0_0.length c0_0]] rfl (by (try simp only [List.map_toArray, List.map_cons, List.map_nil]); first | done | rfl | (simp only [List.length_drop, List.length_take]; rfl)) ?_; (with_reducible refine (spec_GoodSeq.calls k _ _ l0_0 true _ ?side1 ?side2 A2.out).mono ?_); (case side1 => repeat (first | exact (Kd.C_below HR0_0.out HB.out) | (with_reducible refine Kd.C_alloc ?_ _) | (with_reducible refine Kd.C_drewN ?_ _) | (with_reducible refine Kd.C_drew ?_))); (case side2 => exact HC0_0.out); rintro e w7 ⟨rfl, hb⟩; refine ⟨_, rfl, ?_⟩; have n0_ := mz (blk_below (g := gb101) (o := .cells #[.slice A0_0 l0_0.length c0_0] 29 (0, 0)) (by (with_reducible repeat (first | refine blk_drewN ?_ _ | refine blk_drew ?_ | refine blk_alloc ?_ _)); exact BK101.out) hb); have n1_ := mz (below_step (by repeat (first | (with_reducible first | exact HB.out | apply below_alloc | apply pw_below_drewN | apply below_drew1 | refine below_set ?_ GE101.out) | exact HB.out)) hb); clear BK101; clear HB; have BK101 := n0_; have HB := n1_; clear n0_ n1_; (try clear hb); (try clear hb2); (try clear hk); (try clear hi); have hcz8_0 : w7.cell? ⟨gb101, 0, none⟩ = some (.slice A0_0 l0_0.length c0_0) := (blk_cell BK101.out 0).trans rfl; have hfz8_0 := blk_frozen BK101.out 0) | ((with_reducible refine gate_callee (f := 54) rfl ?_); refine goesL_ (some 11) rfl rfl Try.func54 (by kernel_rfl) rfl #[.agg #[.slice A0_0 l0_0.length c0_0]] rfl (by (try simp only [List.map_toArray, List.map_cons, List.map_nil]); first | done | rfl | (simp only [List.length_drop, List.length_take]; rfl)) ?_; (with_reducible refine (spec_l17Shown.calls k _ _ l0_0 t103 _ ?side1 ?side2 A4.out).mono ?_); (case side1 => repeat (first | exact (Kd.C_below HR0_0.out HB.out) | (with_reducible refine Kd.C_alloc ?_ _) | (with_reducible refine Kd.C_drewN ?_ _) | (with_reducible refine Kd.C_drew ?_))); (case side2 => exact HC0_0.out); rintro e w9 ⟨v104, rfl, ho0, hb⟩; refine ⟨_, rfl, ?_⟩; have n0_ := mz (Kd.R_lower ho0 (below_size (by repeat (first | (with_reducible first | exact HB.out | apply below_alloc | apply pw_below_drewN | apply below_drew1 | refine below_set ?_ GE101.out) | exact HB.out)))); have n1_ := mz (blk_below (g := gb101) (o := .cells #[.slice A0_0 l0_0.length c0_0] 29 (0, 0)) (by (with_reducible repeat (first | refine blk_drewN ?_ _ | refine blk_drew ?_ | refine blk_alloc ?_ _)); exact BK101.out) hb); have n2_ := mz (below_step (by repeat (first | (with_reducible first | exact HB.out | apply below_alloc | apply pw_below_drewN | apply below_drew1 | refine below_set ?_ GE101.out) | exact HB.out)) hb); clear BK101; clear HB; have HO105 := n0_; have BK101 := n1_; have HB := n2_; clear n0_ n1_ n2_; (try clear hb); (try clear hb2); (try clear hk); (try clear hi); (try clear ho0); obtain ⟨Ao10, co10, eo10⟩ := Kd.R_slice HO105.out; subst eo10))
    go_loopg [4, 13] k (fun kq v4 v13 w' => ∃ (x4_1 : ByteArray) (x13_1 : Int), v4 = .string x4_1 ∧ v13 = .int .i64 x13_1 ∧ Aside0 (spec_TextOfSeq.l0 kq x4_1 t103 (t103.length : Int) x13_1 l0_0 = some (r1, r2)) ∧ Aside0 (kq ≤ k) ∧ Aside0 (Kd.R (Kd.int .i64) 3 w' w.heap.size (fun _ => True) (.slice Ao10 t103.length co10) t103) ∧ Aside0 (w'.heap[gb101]? = some (.cells #[(.slice A0_0 l0_0.length c0_0)] 29 (0, 0))) ∧ Aside0 (Below w.heap.size w w'))
    case atStart => exact ⟨((⟨#[]⟩ : ByteArray)), (0), (by first | rfl | (simp; done) | (simp [*]; done)), (by first | rfl | (simp; done) | (simp [*]; done)), H', ⟨Nat.le_refl _⟩, ⟨by (with_reducible repeat (first | apply Kd.R_alloc | apply Kd.R_drewN | apply Kd.R_drew)); exact HO105.out⟩, ⟨by (with_reducible repeat (first | refine blk_drewN ?_ _ | refine blk_drew ?_ | refine blk_alloc ?_ _)); exact BK101.out⟩, ⟨by repeat (first | (with_reducible first | exact HB.out | apply below_alloc | apply pw_below_drewN | apply below_drew1 | refine below_set ?_ GE101.out) | exact HB.out)⟩⟩
    case round =>
      clear H'
      try clear c1
      try clear p2
      try clear c3
      try clear c5
      try clear hcz6_0
      try clear hcz8_0
      try clear hfz6_0
      try clear hfz8_0
      obtain ⟨x4_1, x13_1, rfl, rfl, HA, HK1, HO_11, BK101, HB⟩ := hrel
      cases gk with
      | zero => exact absurd HA.out (by simp [spec_TextOfSeq.l0])
      | succ k1 =>
        have H := HA.out
        clear HA
        simp only [spec_TextOfSeq.l0] at H
        by_cases c11 : x13_1 < (t103.length : Int)
        · rw [if_pos c11] at H
          have c11b0 : decide (x13_1 < (t103.length : Int)) = true := decide_eq_true c11
          clear c11
          by_cases c12 : 0 ≤ x13_1
          · rw [if_pos c12] at H
            have c12b0 : decide (0 ≤ x13_1) = true := decide_eq_true c12
            clear c12
            by_cases c13 : x13_1 < (t103.length : Int)
            · rw [if_pos c13] at H
              have c13b0 : decide (x13_1 < (t103.length : Int)) = true := decide_eq_true c13
              clear c13
              by_cases c14 : 0 ≤ (rd t103 x13_1)
              · rw [if_pos c14] at H
                have c14b0 : decide (0 ≤ (rd t103 x13_1)) = true := decide_eq_true c14
                clear c14
                by_cases c15 : (rd t103 x13_1) < (l0_0.length : Int)
                · rw [if_pos c15] at H
                  have c15b0 : decide ((rd t103 x13_1) < (l0_0.length : Int)) = true := decide_eq_true c15
                  clear c15
                  by_cases c16 : x4_1.size + ((rd_T61 l0_0 (rd t103 x13_1)).f4).size ≤ 9223372036854775807
                  · rw [if_pos c16] at H
                    have c16b0 := eq_true c16
                    have c16b1 : decide (x4_1.size + ((rd_T61 l0_0 (rd t103 x13_1)).f4).size ≤ 9223372036854775807) = true := decide_eq_true c16
                    try have c16b2 : (9223372036854775807 < x4_1.size + ((rd_T61 l0_0 (rd t103 x13_1)).f4).size) = False := eq_false (Nat.not_lt.2 c16)
                    have H' := mz H
                    clear H
                    have p106 : 0 ≤ (x13_1 : Int) := of_decide_eq_true (by first | (with_reducible assumption) | assumption)
                    have q106 : x13_1 < (t103.length : Int) := of_decide_eq_true (by first | (with_reducible assumption) | assumption)
                    obtain ⟨ad106, e106, hx106_0⟩ := Kd.at_int (Kd.R_reads' HO_11.out).2.2 x13_1 p106 q106
                    cases e106
                    replace p106 := eq_true p106
                    replace q106 := eq_true q106
                    have hcz17_0 : wr.cell? ⟨gb101, 0, none⟩ = some (.slice A0_0 l0_0.length c0_0) := (blk_cell BK101.out 0).trans rfl
                    have hfz17_0 := blk_frozen BK101.out 0
                    have p107 : 0 ≤ ((rd t103 x13_1) : Int) := of_decide_eq_true (by first | (with_reducible assumption) | assumption)
                    have q107 : (rd t103 x13_1) < (l0_0.length : Int) := of_decide_eq_true (by first | (with_reducible assumption) | assumption)
                    obtain ⟨ad107, e107, hx107_0, hx107_1, hx107_2, hx107_3, hx107_4, hx107_5⟩ := at_T61 HR0_0.out (rd t103 x13_1) p107 q107
                    cases e107
                    replace hx107_0 := bc_ HB.out hx107_0
                    replace hx107_1 := bc_ HB.out hx107_1
                    replace hx107_2 := bc_ HB.out hx107_2
                    replace hx107_3 := bc_ HB.out hx107_3
                    replace hx107_4 := bc_ HB.out hx107_4
                    replace hx107_5 := bc_ HB.out hx107_5
                    replace p107 := eq_true p107
                    replace q107 := eq_true q107
                    go_wp2
                    go_roundg k1
                    case measure => have := HK1.out; omega
                    case rel => exact ⟨(x4_1 ++ ((rd_T61 l0_0 (rd t103 x13_1)).f4)), (wrap64 (x13_1 + 1)), (by first | rfl | (simp; done) | (simp [*]; done)), (by first | rfl | (simp; done) | (simp [*]; done)), H', ⟨by have := HK1.out; omega⟩, ⟨by (with_reducible repeat (first | apply Kd.R_alloc | apply Kd.R_drewN | apply Kd.R_drew)); exact HO_11.out⟩, ⟨by (with_reducible repeat (first | refine blk_drewN ?_ _ | refine blk_drew ?_ | refine blk_alloc ?_ _)); exact BK101.out⟩, ⟨by repeat (first | (with_reducible first | exact HB.out | apply below_alloc | apply pw_below_drewN | apply below_drew1 | refine below_set ?_ GE101.out) | exact HB.out)⟩⟩
                  · rw [if_neg c16] at H
                    exact absurd H (by simp)
                · rw [if_neg c15] at H
                  exact absurd H (by simp)
              · rw [if_neg c14] at H
                exact absurd H (by simp)
            · rw [if_neg c13] at H
              exact absurd H (by simp)
          · rw [if_neg c12] at H
            exact absurd H (by simp)
        · rw [if_neg c11] at H
          have c11b0 : decide (x13_1 < (t103.length : Int)) = false := decide_eq_false c11
          clear c11
          simp only [Option.some.injEq, Prod.mk.injEq] at H
          obtain ⟨rfl, rfl⟩ := H
          go_wp2
          go_ret2
          exact ⟨by first | rfl | (simp [errW_none, errW_some] <;> rfl) | (simp [*, errW_none, errW_some] <;> rfl), by repeat (first | (with_reducible first | exact HB.out | apply below_alloc | apply pw_below_drewN | apply below_drew1 | refine below_set ?_ GE101.out) | exact HB.out)⟩
  · replace c3 := Bool.eq_false_iff.mpr c3
    subst c3
    have H1 : (some ((⟨#[]⟩ : ByteArray), false)) = some (r1, r2) := by rw [if_neg (show ¬ (false = true) by decide)] at H; exact H
    clear H
    have H := H1
    clear H1
    simp only [Option.some.injEq, Prod.mk.injEq] at H
    obtain ⟨rfl, rfl⟩ := H
    go_enter Try.func19, Try.ntmps19
    go_wp2_with (first | ((with_reducible refine gate_dst (N := 1) rfl ?_); refine box_event ?hg (N := 1) ?hd (cs := #[.slice A0_0 l0_0.length c0_0]) (t := 29) ?hr ?_; (case hd => rfl); (case hg => rfl); (case hr => first | (go_simp; done) | (go_simp; rfl)); intro gb101 hg w18 hbox hb; have n0_ := mz (below_step (by repeat (first | (with_reducible first | exact HB.out | apply below_alloc | apply pw_below_drewN | apply below_drew1) | exact HB.out)) hb); have n1_ := mz (hbox); have n2_ := mz ((by rw [hg]; exact (below_size (by repeat (first | (with_reducible first | exact HB.out | apply below_alloc | apply pw_below_drewN | apply below_drew1) | exact HB.out))) : w.heap.size ≤ gb101)); have n3_ := mz ((by rw [hg]; exact (below_size (by repeat (first | (with_reducible first | exact HB.out | apply below_alloc | apply pw_below_drewN | apply below_drew1) | exact HB.out))) : w.heap.size ≤ gb101)); clear HB; have HB := n0_; have BK101 := n1_; have GW101 := n2_; have GE101 := n3_; clear n0_ n1_ n2_ n3_; clear hb hbox hg; have hcz19_0 : w18.cell? ⟨gb101, 0, none⟩ = some (.slice A0_0 l0_0.length c0_0) := (blk_cell BK101.out 0).trans rfl; have hfz19_0 := blk_frozen BK101.out 0) | ((with_reducible refine gate_callee (f := 13) rfl ?_); refine goesL_ (some 8) rfl rfl Try.func13 (by kernel_rfl) rfl #[.agg #[.slice A0_0 l0_0.length c0_0]] rfl (by (try simp only [List.map_toArray, List.map_cons, List.map_nil]); first | done | rfl | (simp only [List.length_drop, List.length_take]; rfl)) ?_; (with_reducible refine (spec_GoodSeq.calls k _ _ l0_0 false _ ?side1 ?side2 A2.out).mono ?_); (case side1 => repeat (first | exact (Kd.C_below HR0_0.out HB.out) | (with_reducible refine Kd.C_alloc ?_ _) | (with_reducible refine Kd.C_drewN ?_ _) | (with_reducible refine Kd.C_drew ?_))); (case side2 => exact HC0_0.out); rintro e w20 ⟨rfl, hb⟩; refine ⟨_, rfl, ?_⟩; have n0_ := mz (blk_below (g := gb101) (o := .cells #[.slice A0_0 l0_0.length c0_0] 29 (0, 0)) (by (with_reducible repeat (first | refine blk_drewN ?_ _ | refine blk_drew ?_ | refine blk_alloc ?_ _)); exact BK101.out) hb); have n1_ := mz (below_step (by repeat (first | (with_reducible first | exact HB.out | apply below_alloc | apply pw_below_drewN | apply below_drew1 | refine below_set ?_ GE101.out) | exact HB.out)) hb); clear BK101; clear HB; have BK101 := n0_; have HB := n1_; clear n0_ n1_; (try clear hb); (try clear hb2); (try clear hk); (try clear hi)))
    go_ret2
    exact ⟨by first | rfl | (simp [errW_none, errW_some] <;> rfl) | (simp [*, errW_none, errW_some] <;> rfl), by repeat (first | (with_reducible first | exact HB.out | apply below_alloc | apply pw_below_drewN | apply below_drew1 | refine below_set ?_ GE101.out) | exact HB.out)⟩
end
section
attribute [local go_sem] max2_int min2_int max_two min_two max_three min_three max_four min_four
def laws_FnExactTextOfSeq.j0 : Nat → Bool → List (S96) → List (S61) → Option (Bool)
  | 0, _, _, _ => none
  | k + 1, x34, x102000, x112000 => if x34 = true then (some false) else ((laws_toSeq.f k x102000).bind fun t114 => ((laws_eqSeq.f k x112000 t114).bind fun t117 => (if t117 = true then (some true) else (some false))))
def laws_FnExactTextOfSeq.f (k : Nat) (l0_0 : List (S96)) : Option (Bool) := (laws_szSeq.f k l0_0 1048576).bind fun t102 => (if t102 < 0 then (some true) else ((laws_toSeq.f k l0_0).bind fun t103 => ((spec_TextOfSeq.f k t103).bind fun bt106 => ((laws_toSeq.f k l0_0).bind fun t108 => ((impl_TextOfSeq.f t108).bind fun bt112 => (if bt112.1.toList = bt106.1.toList then (laws_FnExactTextOfSeq.j0 k (bt112.2 != bt106.2) l0_0 t108) else (laws_FnExactTextOfSeq.j0 k true l0_0 t108)))))))
set_option maxHeartbeats 8000000 in
set_option maxRecDepth 100000 in
theorem laws_FnExactTextOfSeq.calls (k : Nat) (A0_0 : Option Addr) (c0_0 : Nat) (l0_0 : List (S96)) (r : Bool) (w : World) (hr0_0 : Kd.C k96 w A0_0 l0_0.length l0_0) (hc0_0 : l0_0.length ≤ c0_0) (h : laws_FnExactTextOfSeq.f k l0_0 = some r) :
    Calls Try.prog 5 #[.agg #[.slice A0_0 l0_0.length c0_0]] w fun e w' => e = .returned (.bool r) ∧ Below w.heap.size w w' := by
  have hu24 := Try.underlying24
  have hu29 := Try.underlying29
  have HR0_0 := mz hr0_0
  have HC0_0 := mz hc0_0
  clear hr0_0 hc0_0
  have HB := mz (Below.refl w.heap.size w)
  have H : ((laws_szSeq.f k l0_0 1048576).bind fun t102 => (if t102 < 0 then (some true) else ((laws_toSeq.f k l0_0).bind fun t103 => ((spec_TextOfSeq.f k t103).bind fun bt106 => ((laws_toSeq.f k l0_0).bind fun t108 => ((impl_TextOfSeq.f t108).bind fun bt112 => (if bt112.1.toList = bt106.1.toList then (laws_FnExactTextOfSeq.j0 k (bt112.2 != bt106.2) l0_0 t108) else (laws_FnExactTextOfSeq.j0 k true l0_0 t108)))))))) = some r := h
  clear h
  replace H := be0_ H
  obtain ⟨t102, A20, H⟩ := H
  replace H : (if t102 < 0 then (some true) else ((laws_toSeq.f k l0_0).bind fun t103 => ((spec_TextOfSeq.f k t103).bind fun bt106 => ((laws_toSeq.f k l0_0).bind fun t108 => ((impl_TextOfSeq.f t108).bind fun bt112 => (if bt112.1.toList = bt106.1.toList then (laws_FnExactTextOfSeq.j0 k (bt112.2 != bt106.2) l0_0 t108) else (laws_FnExactTextOfSeq.j0 k true l0_0 t108))))))) = some r := H
  have A2 := mz A20
  clear A20
  by_cases c3 : t102 < 0
  · rw [if_pos c3] at H
    have c3b0 : decide (t102 < 0) = true := decide_eq_true c3
    clear c3
    obtain rfl := Option.some.inj H
    go_enter Try.func5, Try.ntmps5
    go_wp2_with (first | ((with_reducible refine gate_dst (N := 1) rfl ?_); refine box_event ?hg (N := 1) ?hd (cs := #[.slice A0_0 l0_0.length c0_0]) (t := 24) ?hr ?_; (case hd => rfl); (case hg => rfl); (case hr => first | (go_simp; done) | (go_simp; rfl)); intro gb101 hg w4 hbox hb; have n0_ := mz (below_step (by repeat (first | (with_reducible first | exact HB.out | apply below_alloc | apply pw_below_drewN | apply below_drew1) | exact HB.out)) hb); have n1_ := mz (hbox); have n2_ := mz ((by rw [hg]; exact (below_size (by repeat (first | (with_reducible first | exact HB.out | apply below_alloc | apply pw_below_drewN | apply below_drew1) | exact HB.out))) : w.heap.size ≤ gb101)); have n3_ := mz ((by rw [hg]; exact (below_size (by repeat (first | (with_reducible first | exact HB.out | apply below_alloc | apply pw_below_drewN | apply below_drew1) | exact HB.out))) : w.heap.size ≤ gb101)); clear HB; have HB := n0_; have BK101 := n1_; have GW101 := n2_; have GE101 := n3_; clear n0_ n1_ n2_ n3_; clear hb hbox hg; have hcz5_0 : w4.cell? ⟨gb101, 0, none⟩ = some (.slice A0_0 l0_0.length c0_0) := (blk_cell BK101.out 0).trans rfl; have hfz5_0 := blk_frozen BK101.out 0) | ((with_reducible refine gate_callee (f := 12) rfl ?_); refine goesL_ (some 11) rfl rfl Try.func12 (by kernel_rfl) rfl #[.agg #[.slice A0_0 l0_0.length c0_0], .int .i64 1048576] rfl (by (try simp only [List.map_toArray, List.map_cons, List.map_nil]); first | done | rfl | (simp only [List.length_drop, List.length_take]; rfl)) ?_; (with_reducible refine (laws_szSeq.calls k _ _ l0_0 1048576 t102 _ ?side1 ?side2 A2.out).mono ?_); (case side1 => repeat (first | exact (Kd.C_below HR0_0.out HB.out) | (with_reducible refine Kd.C_alloc ?_ _) | (with_reducible refine Kd.C_drewN ?_ _) | (with_reducible refine Kd.C_drew ?_))); (case side2 => exact HC0_0.out); rintro e w6 ⟨rfl, hb⟩; refine ⟨_, rfl, ?_⟩; have n0_ := mz (blk_below (g := gb101) (o := .cells #[.slice A0_0 l0_0.length c0_0] 24 (0, 0)) (by (with_reducible repeat (first | refine blk_drewN ?_ _ | refine blk_drew ?_ | refine blk_alloc ?_ _)); exact BK101.out) hb); have n1_ := mz (below_step (by repeat (first | (with_reducible first | exact HB.out | apply below_alloc | apply pw_below_drewN | apply below_drew1 | refine below_set ?_ GE101.out) | exact HB.out)) hb); clear BK101; clear HB; have BK101 := n0_; have HB := n1_; clear n0_ n1_; (try clear hb); (try clear hb2); (try clear hk); (try clear hi)))
    go_ret
    exact ⟨by first | rfl | (simp [errW_none, errW_some] <;> rfl) | (simp [*, errW_none, errW_some] <;> rfl), by repeat (first | (with_reducible first | exact HB.out | apply below_alloc | apply pw_below_drewN | apply below_drew1 | refine below_set ?_ GE101.out) | exact HB.out)⟩
  · rw [if_neg c3] at H
    have c3b0 : decide (t102 < 0) = false := decide_eq_false c3
    clear c3
    replace H := be0_ H
    obtain ⟨t103, A70, H⟩ := H
    replace H : ((spec_TextOfSeq.f k t103).bind fun bt106 => ((laws_toSeq.f k l0_0).bind fun t108 => ((impl_TextOfSeq.f t108).bind fun bt112 => (if bt112.1.toList = bt106.1.toList then (laws_FnExactTextOfSeq.j0 k (bt112.2 != bt106.2) l0_0 t108) else (laws_FnExactTextOfSeq.j0 k true l0_0 t108))))) = some r := H
    have A7 := mz A70
    clear A70
    replace H := be0_ H
    obtain ⟨⟨t106, t107⟩, A80, H⟩ := H
    replace H : ((laws_toSeq.f k l0_0).bind fun t108 => ((impl_TextOfSeq.f t108).bind fun bt112 => (if bt112.1.toList = t106.toList then (laws_FnExactTextOfSeq.j0 k (bt112.2 != t107) l0_0 t108) else (laws_FnExactTextOfSeq.j0 k true l0_0 t108)))) = some r := H
    have A8 := mz A80
    clear A80
    replace H := be0_ H
    obtain ⟨t108, A90, H⟩ := H
    replace H : ((impl_TextOfSeq.f t108).bind fun bt112 => (if bt112.1.toList = t106.toList then (laws_FnExactTextOfSeq.j0 k (bt112.2 != t107) l0_0 t108) else (laws_FnExactTextOfSeq.j0 k true l0_0 t108))) = some r := H
    have A9 := mz A90
    clear A90
    replace H := be0_ H
    obtain ⟨⟨t112, t113⟩, A100, H⟩ := H
    replace H : (if t112.toList = t106.toList then (laws_FnExactTextOfSeq.j0 k (t113 != t107) l0_0 t108) else (laws_FnExactTextOfSeq.j0 k true l0_0 t108)) = some r := H
    have A10 := mz A100
    clear A100
    have HC11 := mz H
    clear H
    go_enter Try.func5, Try.ntmps5
    go_upto_region 8 with (first | ((with_reducible refine gate_dst (N := 1) rfl ?_); refine box_event ?hg (N := 1) ?hd (cs := #[.slice A0_0 l0_0.length c0_0]) (t := 24) ?hr ?_; (case hd => rfl); (case hg => rfl); (case hr => first | (go_simp; done) | (go_simp; rfl)); intro gb101 hg w12 hbox hb; have n0_ := mz (below_step (by repeat (first | (with_reducible first | exact HB.out | apply below_alloc | apply pw_below_drewN | apply below_drew1) | exact HB.out)) hb); have n1_ := mz (hbox); have n2_ := mz ((by rw [hg]; exact (below_size (by repeat (first | (with_reducible first | exact HB.out | apply below_alloc | apply pw_below_drewN | apply below_drew1) | exact HB.out))) : w.heap.size ≤ gb101)); have n3_ := mz ((by rw [hg]; exact (below_size (by repeat (first | (with_reducible first | exact HB.out | apply below_alloc | apply pw_below_drewN | apply below_drew1) | exact HB.out))) : w.heap.size ≤ gb101)); clear HB; have HB := n0_; have BK101 := n1_; have GW101 := n2_; have GE101 := n3_; clear n0_ n1_ n2_ n3_; clear hb hbox hg; have hcz13_0 : w12.cell? ⟨gb101, 0, none⟩ = some (.slice A0_0 l0_0.length c0_0) := (blk_cell BK101.out 0).trans rfl; have hfz13_0 := blk_frozen BK101.out 0) | ((with_reducible refine gate_callee (f := 12) rfl ?_); refine goesL_ (some 11) rfl rfl Try.func12 (by kernel_rfl) rfl #[.agg #[.slice A0_0 l0_0.length c0_0], .int .i64 1048576] rfl (by (try simp only [List.map_toArray, List.map_cons, List.map_nil]); first | done | rfl | (simp only [List.length_drop, List.length_take]; rfl)) ?_; (with_reducible refine (laws_szSeq.calls k _ _ l0_0 1048576 t102 _ ?side1 ?side2 A2.out).mono ?_); (case side1 => repeat (first | exact (Kd.C_below HR0_0.out HB.out) | (with_reducible refine Kd.C_alloc ?_ _) | (with_reducible refine Kd.C_drewN ?_ _) | (with_reducible refine Kd.C_drew ?_))); (case side2 => exact HC0_0.out); rintro e w14 ⟨rfl, hb⟩; refine ⟨_, rfl, ?_⟩; have n0_ := mz (blk_below (g := gb101) (o := .cells #[.slice A0_0 l0_0.length c0_0] 24 (0, 0)) (by (with_reducible repeat (first | refine blk_drewN ?_ _ | refine blk_drew ?_ | refine blk_alloc ?_ _)); exact BK101.out) hb); have n1_ := mz (below_step (by repeat (first | (with_reducible first | exact HB.out | apply below_alloc | apply pw_below_drewN | apply below_drew1 | refine below_set ?_ GE101.out) | exact HB.out)) hb); clear BK101; clear HB; have BK101 := n0_; have HB := n1_; clear n0_ n1_; (try clear hb); (try clear hb2); (try clear hk); (try clear hi); have hcz15_0 : w14.cell? ⟨gb101, 0, none⟩ = some (.slice A0_0 l0_0.length c0_0) := (blk_cell BK101.out 0).trans rfl; have hfz15_0 := blk_frozen BK101.out 0) | ((with_reducible refine gate_callee (f := 14) rfl ?_); refine goesL_ (some 16) rfl rfl Try.func14 (by kernel_rfl) rfl #[.agg #[.slice A0_0 l0_0.length c0_0]] rfl (by (try simp only [List.map_toArray, List.map_cons, List.map_nil]); first | done | rfl | (simp only [List.length_drop, List.length_take]; rfl)) ?_; (with_reducible refine (laws_toSeq.calls k _ _ l0_0 t103 _ ?side1 ?side2 A7.out).mono ?_); (case side1 => repeat (first | exact (Kd.C_below HR0_0.out HB.out) | (with_reducible refine Kd.C_alloc ?_ _) | (with_reducible refine Kd.C_drewN ?_ _) | (with_reducible refine Kd.C_drew ?_))); (case side2 => exact HC0_0.out); rintro e w16 ⟨v104, rfl, ho0, hb⟩; refine ⟨_, rfl, ?_⟩; have n0_ := mz (Kd.R_lower ho0 (below_size (by repeat (first | (with_reducible first | exact HB.out | apply below_alloc | apply pw_below_drewN | apply below_drew1 | refine below_set ?_ GE101.out) | exact HB.out)))); have n1_ := mz (blk_below (g := gb101) (o := .cells #[.slice A0_0 l0_0.length c0_0] 24 (0, 0)) (by (with_reducible repeat (first | refine blk_drewN ?_ _ | refine blk_drew ?_ | refine blk_alloc ?_ _)); exact BK101.out) hb); have n2_ := mz (below_step (by repeat (first | (with_reducible first | exact HB.out | apply below_alloc | apply pw_below_drewN | apply below_drew1 | refine below_set ?_ GE101.out) | exact HB.out)) hb); clear BK101; clear HB; have HO105 := n0_; have BK101 := n1_; have HB := n2_; clear n0_ n1_ n2_; (try clear hb); (try clear hb2); (try clear hk); (try clear hi); (try clear ho0); obtain ⟨Ao17, co17, eo17⟩ := Kd.R_slice HO105.out; subst eo17) | ((with_reducible refine gate_callee (f := 19) rfl ?_); refine goesL_ (some 17) rfl rfl Try.func19 (by kernel_rfl) rfl #[.agg #[.slice Ao17 t103.length co17]] rfl (by (try simp only [List.map_toArray, List.map_cons, List.map_nil]); first | done | rfl | (simp only [List.length_drop, List.length_take]; rfl)) ?_; (with_reducible refine (spec_TextOfSeq.calls k _ _ t103 t106 t107 _ ?side1 ?side2 A8.out).mono ?_); (case side1 => repeat (first | exact (Kd.R_reads' HO105.out).2.2 | (with_reducible refine Kd.C_alloc ?_ _) | (with_reducible refine Kd.C_drewN ?_ _) | (with_reducible refine Kd.C_drew ?_))); (case side2 => exact (Kd.R_reads' HO105.out).2.1); rintro e w18 ⟨rfl, hb⟩; refine ⟨_, rfl, ?_⟩; have n0_ := mz (Kd.R_below (by (with_reducible repeat (first | apply Kd.R_alloc | apply Kd.R_drewN | apply Kd.R_drew)); exact HO105.out) hb); have n1_ := mz (blk_below (g := gb101) (o := .cells #[.slice A0_0 l0_0.length c0_0] 24 (0, 0)) (by (with_reducible repeat (first | refine blk_drewN ?_ _ | refine blk_drew ?_ | refine blk_alloc ?_ _)); exact BK101.out) hb); have n2_ := mz (below_step (by repeat (first | (with_reducible first | exact HB.out | apply below_alloc | apply pw_below_drewN | apply below_drew1 | refine below_set ?_ GE101.out) | exact HB.out)) hb); clear HO105; clear BK101; clear HB; have HO105 := n0_; have BK101 := n1_; have HB := n2_; clear n0_ n1_ n2_; (try clear hb); (try clear hb2); (try clear hk); (try clear hi); have hcz19_0 : w18.cell? ⟨gb101, 0, none⟩ = some (.slice A0_0 l0_0.length c0_0) := (blk_cell BK101.out 0).trans rfl; have hfz19_0 := blk_frozen BK101.out 0) | ((with_reducible refine gate_callee (f := 14) rfl ?_); refine goesL_ (some 21) rfl rfl Try.func14 (by kernel_rfl) rfl #[.agg #[.slice A0_0 l0_0.length c0_0]] rfl (by (try simp only [List.map_toArray, List.map_cons, List.map_nil]); first | done | rfl | (simp only [List.length_drop, List.length_take]; rfl)) ?_; (with_reducible refine (laws_toSeq.calls k _ _ l0_0 t108 _ ?side1 ?side2 A9.out).mono ?_); (case side1 => repeat (first | exact (Kd.C_below HR0_0.out HB.out) | (with_reducible refine Kd.C_alloc ?_ _) | (with_reducible refine Kd.C_drewN ?_ _) | (with_reducible refine Kd.C_drew ?_))); (case side2 => exact HC0_0.out); rintro e w20 ⟨v109, rfl, ho0, hb⟩; refine ⟨_, rfl, ?_⟩; have n0_ := mz (Kd.R_elder' (by (with_reducible repeat (first | apply Kd.R_alloc | apply Kd.R_drewN | apply Kd.R_drew)); exact HO105.out) (Kd.R_base ho0) hb); have n1_ := mz (Kd.R_lower (Kd.R_new' ho0 (Kd.R_lt (by (with_reducible repeat (first | apply Kd.R_alloc | apply Kd.R_drewN | apply Kd.R_drew)); exact HO105.out))) (below_size (by repeat (first | (with_reducible first | exact HB.out | apply below_alloc | apply pw_below_drewN | apply below_drew1 | refine below_set ?_ GE101.out) | exact HB.out)))); have n2_ := mz (blk_below (g := gb101) (o := .cells #[.slice A0_0 l0_0.length c0_0] 24 (0, 0)) (by (with_reducible repeat (first | refine blk_drewN ?_ _ | refine blk_drew ?_ | refine blk_alloc ?_ _)); exact BK101.out) hb); have n3_ := mz (below_step (by repeat (first | (with_reducible first | exact HB.out | apply below_alloc | apply pw_below_drewN | apply below_drew1 | refine below_set ?_ GE101.out) | exact HB.out)) hb); clear HO105; clear BK101; clear HB; have HO105 := n0_; have HO110 := n1_; have BK101 := n2_; have HB := n3_; clear n0_ n1_ n2_ n3_; (try clear hb); (try clear hb2); (try clear hk); (try clear hi); (try clear ho0)) | ((with_reducible refine gate_dst (N := 6) rfl ?_); refine box_event ?hg (N := 6) ?hd (cs := #[.slice none 0 0]) (t := 29) ?hr ?_; (case hd => rfl); (case hg => rfl); (case hr => first | (go_simp; done) | (go_simp; rfl)); intro gb111 hg w21 hbox hb; have n0_ := mz (Kd.R_below (by (with_reducible repeat (first | apply Kd.R_alloc | apply Kd.R_drewN | apply Kd.R_drew)); exact HO105.out) hb); have n1_ := mz (Kd.R_below (by (with_reducible repeat (first | apply Kd.R_alloc | apply Kd.R_drewN | apply Kd.R_drew)); exact HO110.out) hb); have n2_ := mz (blk_below (g := gb101) (o := .cells #[.slice A0_0 l0_0.length c0_0] 24 (0, 0)) (by (with_reducible repeat (first | refine blk_drewN ?_ _ | refine blk_drew ?_ | refine blk_alloc ?_ _)); exact BK101.out) hb); have n3_ := mz (below_step (by repeat (first | (with_reducible first | exact HB.out | apply below_alloc | apply pw_below_drewN | apply below_drew1 | refine below_set ?_ GE101.out) | exact HB.out)) hb); have n4_ := mz (hbox); have n5_ := mz ((by rw [hg]; exact (below_size (by repeat (first | (with_reducible first | exact HB.out | apply below_alloc | apply pw_below_drewN | apply below_drew1 | refine below_set ?_ GE101.out) | exact HB.out))) : w.heap.size ≤ gb111)); have n6_ := mz ((by rw [hg]; exact (below_size (by repeat (first | (with_reducible first | exact HB.out | apply below_alloc | apply pw_below_drewN | apply below_drew1 | refine below_set ?_ GE101.out) | exact HB.out))) : w.heap.size ≤ gb111)); have n7_ := mz ((by rw [hg]; exact Nat.ne_of_lt (blk_lt (g := gb101) (o := .cells #[.slice A0_0 l0_0.length c0_0] 24 (0, 0)) (by (with_reducible repeat (first | refine blk_drewN ?_ _ | refine blk_drew ?_ | refine blk_alloc ?_ _)); exact BK101.out)) : gb101 ≠ gb111)); have n8_ := mz ((by rw [hg]; exact Nat.ne_of_gt (blk_lt (g := gb101) (o := .cells #[.slice A0_0 l0_0.length c0_0] 24 (0, 0)) (by (with_reducible repeat (first | refine blk_drewN ?_ _ | refine blk_drew ?_ | refine blk_alloc ?_ _)); exact BK101.out)) : gb111 ≠ gb101)); clear HO105; clear HO110; clear BK101; clear HB; have HO105 := n0_; have HO110 := n1_; have BK101 := n2_; have HB := n3_; have BK111 := n4_; have GW111 := n5_; have GE111 := n6_; have NB101_111 := n7_; have NB111_101 := n8_; clear n0_ n1_ n2_ n3_ n4_ n5_ n6_ n7_ n8_; clear hb hbox hg; obtain ⟨Ao22, co22, eo22⟩ := Kd.R_slice HO110.out; subst eo22; have hnb23 := NB111_101.out; have hnc23 := NB101_111.out; have hcz24_0 : w21.cell? ⟨gb111, 0, none⟩ = some (.slice none 0 0) := (blk_cell BK111.out 0).trans rfl; have hfz24_0 := blk_frozen BK111.out 0) | ((with_reducible refine gate_callee (f := 20) rfl ?_); refine goesL_ (some 24) rfl rfl Try.func20 (by kernel_rfl) rfl #[.agg #[.slice Ao22 t108.length co22]] rfl (by (try simp only [List.map_toArray, List.map_cons, List.map_nil]); first | done | rfl | (simp only [List.length_drop, List.length_take]; rfl)) ?_; (with_reducible refine (impl_TextOfSeq.calls _ _ t108 t112 t113 _ ?side1 ?side2 A10.out).mono ?_); (case side1 => refine (Kd.R_reads' (e := 61) (base := w.heap.size) (ok := fun k_ => (True ∧ some k_ ≠ (.slice Ao17 t103.length co17 : Value).ownBlock)) (n := t108.length) (c := co22) ?_).2.2; exact (by (with_reducible repeat (first | apply Kd.R_alloc | apply Kd.R_drewN | apply Kd.R_drew)); exact (Kd.R_mono (Kd.R_far (p := ⟨gb111, 0, none⟩) (Kd.R_types HO110.out BK111.out (by decide)) (fun _ hk => hk.2) (.slice Ao22 t108.length co22)) (fun _ h_ => h_.1)))); (case side2 => exact (Kd.R_reads' HO110.out).2.1); rintro e w25 ⟨rfl, hb⟩; refine ⟨_, rfl, ?_⟩; have n0_ := mz (Kd.R_below (by (with_reducible repeat (first | apply Kd.R_alloc | apply Kd.R_drewN | apply Kd.R_drew)); exact (Kd.R_mono (Kd.R_far (p := ⟨gb111, 0, none⟩) (Kd.R_types HO105.out BK111.out (by decide)) (fun _ hk => hk.2) (.slice Ao22 t108.length co22)) (fun _ h_ => h_.1))) hb); have n1_ := mz (Kd.R_below (by (with_reducible repeat (first | apply Kd.R_alloc | apply Kd.R_drewN | apply Kd.R_drew)); exact (Kd.R_mono (Kd.R_far (p := ⟨gb111, 0, none⟩) (Kd.R_types HO110.out BK111.out (by decide)) (fun _ hk => hk.2) (.slice Ao22 t108.length co22)) (fun _ h_ => h_.1))) hb); have n2_ := mz (blk_below (g := gb101) (o := .cells #[.slice A0_0 l0_0.length c0_0] 24 (0, 0)) (by (with_reducible repeat (first | refine blk_drewN ?_ _ | refine blk_drew ?_ | refine blk_alloc ?_ _)); refine blk_far ?_ NB101_111.out _; (with_reducible repeat (first | refine blk_drewN ?_ _ | refine blk_drew ?_ | refine blk_alloc ?_ _)); exact BK101.out) hb); have n3_ := mz (blk_below (g := gb111) (o := .cells #[.slice Ao22 t108.length co22] 29 (0, 0)) (by (with_reducible repeat (first | refine blk_drewN ?_ _ | refine blk_drew ?_ | refine blk_alloc ?_ _)); refine blk_put (cs := #[.slice none 0 0]) ?_ 0 _ rfl; (with_reducible repeat (first | refine blk_drewN ?_ _ | refine blk_drew ?_ | refine blk_alloc ?_ _)); exact BK111.out) hb); have n4_ := mz (below_step (by repeat (first | (with_reducible first | exact HB.out | apply below_alloc | apply pw_below_drewN | apply below_drew1 | refine below_set ?_ GE101.out | refine below_set ?_ GE111.out) | exact HB.out)) hb); clear HO105; clear HO110; clear BK101; clear BK111; clear HB; have HO105 := n0_; have HO110 := n1_; have BK101 := n2_; have BK111 := n3_; have HB := n4_; clear n0_ n1_ n2_ n3_ n4_; (try clear hb); (try clear hb2); (try clear hk); (try clear hi)))
    (try simp only [Act.put, List.setIfInBounds_toArray, List.set_cons_zero, List.set_cons_succ])
    go_cut [34] (fun v34 wc => ∃ (kq : Nat) (x34_10 : Bool), v34 = .bool x34_10 ∧ Aside0 (laws_FnExactTextOfSeq.j0 kq x34_10 l0_0 t108 = some r) ∧ Aside0 (kq ≤ k) ∧ Aside0 (Kd.R k61 61 wc w.heap.size (fun _ => True) (.slice Ao22 t108.length co22) t108) ∧ Aside0 (wc.heap[gb101]? = some (.cells #[(.slice A0_0 l0_0.length c0_0)] 24 (0, 0))) ∧ Aside0 (wc.heap[gb111]? = some (.cells #[(.slice Ao22 t108.length co22)] 29 (0, 0))) ∧ Aside0 (Below w.heap.size w wc))
    case first =>
      have H := HC11.out
      clear HC11
      by_cases c26 : t112.toList = t106.toList
      · rw [if_pos c26] at H
        have c26b0 : (t112.toList == t106.toList) = true := beq_iff_eq.mpr c26
        have c26b1 : (t112.toList != t106.toList) = false := bne_eq_false_iff_eq.mpr c26
        clear c26
        (first | rw [c26b0] | (simp only [i64_w, i32_w]; rw [c26b0]) | skip)
        have H' := mz H
        clear H
        go_wp2
        go_meet
        case rel => exact ⟨_, ((t113 != t107)), (by first | rfl | (simp; done) | (simp [*]; done)), H', ⟨by first | omega | exact Nat.le_refl _⟩, ⟨by (with_reducible repeat (first | apply Kd.R_alloc | apply Kd.R_drewN | apply Kd.R_drew)); exact Kd.R_mono HO110.out (fun _ hk => trivial)⟩, ⟨by (with_reducible repeat (first | refine blk_drewN ?_ _ | refine blk_drew ?_ | refine blk_alloc ?_ _)); exact BK101.out⟩, ⟨by (with_reducible repeat (first | refine blk_drewN ?_ _ | refine blk_drew ?_ | refine blk_alloc ?_ _)); exact BK111.out⟩, ⟨by repeat (first | (with_reducible first | exact HB.out | apply below_alloc | apply pw_below_drewN | apply below_drew1 | refine below_set ?_ GE101.out | refine below_set ?_ GE111.out) | exact HB.out)⟩⟩
      · rw [if_neg c26] at H
        have c26b0 : (t112.toList == t106.toList) = false := beq_eq_false_iff_ne.mpr c26
        have c26b1 : (t112.toList != t106.toList) = true := bne_iff_ne.mpr c26
        (first | rw [c26b0] | (simp only [i64_w, i32_w]; rw [c26b0]) | skip)
        have H' := mz H
        clear H
        go_wp2
        go_meet
        case rel => exact ⟨_, (true), (by first | rfl | (simp; done) | (simp [*]; done)), H', ⟨by first | omega | exact Nat.le_refl _⟩, ⟨by (with_reducible repeat (first | apply Kd.R_alloc | apply Kd.R_drewN | apply Kd.R_drew)); exact Kd.R_mono HO110.out (fun _ hk => trivial)⟩, ⟨by (with_reducible repeat (first | refine blk_drewN ?_ _ | refine blk_drew ?_ | refine blk_alloc ?_ _)); exact BK101.out⟩, ⟨by (with_reducible repeat (first | refine blk_drewN ?_ _ | refine blk_drew ?_ | refine blk_alloc ?_ _)); exact BK111.out⟩, ⟨by repeat (first | (with_reducible first | exact HB.out | apply below_alloc | apply pw_below_drewN | apply below_drew1 | refine below_set ?_ GE101.out | refine below_set ?_ GE111.out) | exact HB.out)⟩⟩
    case rest =>
      clear HC11
      try clear c1
      try clear c2
      try clear p2
      try clear c3
      try clear c3b0
      try clear c5
      try clear c12
      try clear c14
      try clear c19
      try clear c20
      try clear c23
      try clear c26
      try clear c26b0
      try clear c26b1
      try clear hcz13_0
      try clear hcz15_0
      try clear hcz19_0
      try clear hcz24_0
      try clear hcz5_0
      try clear hfz13_0
      try clear hfz15_0
      try clear hfz19_0
      try clear hfz24_0
      try clear hfz5_0
      obtain ⟨kq, x34_10, rfl, HA, HJ10, HO_112000, BK101, BK111, HB⟩ := hcut
      cases kq with
      | zero => exact absurd HA.out (by simp [laws_FnExactTextOfSeq.j0])
      | succ kj10 =>
        have H := HA.out
        clear HA
        simp only [laws_FnExactTextOfSeq.j0] at H
        by_cases c27 : x34_10 = true
        · subst c27
          have H1 : (some false) = some r := by rw [if_pos rfl] at H; exact H
          clear H
          have H := H1
          clear H1
          obtain rfl := Option.some.inj H
          go_wp2
          go_ret
          exact ⟨by first | rfl | (simp [errW_none, errW_some] <;> rfl) | (simp [*, errW_none, errW_some] <;> rfl), by repeat (first | (with_reducible first | exact HB.out | apply below_alloc | apply pw_below_drewN | apply below_drew1 | refine below_set ?_ GE101.out | refine below_set ?_ GE111.out) | exact HB.out)⟩
        · replace c27 := Bool.eq_false_iff.mpr c27
          subst c27
          have H1 : ((laws_toSeq.f kj10 l0_0).bind fun t114 => ((laws_eqSeq.f kj10 t108 t114).bind fun t117 => (if t117 = true then (some true) else (some false)))) = some r := by rw [if_neg (show ¬ (false = true) by decide)] at H; exact H
          clear H
          have H := H1
          clear H1
          replace H := be0_ H
          obtain ⟨t114, A280, H⟩ := H
          replace H : ((laws_eqSeq.f kj10 t108 t114).bind fun t117 => (if t117 = true then (some true) else (some false))) = some r := H
          have A28 := mz A280
          clear A280
          replace H := be0_ H
          obtain ⟨t117, A290, H⟩ := H
          replace H : (if t117 = true then (some true) else (some false)) = some r := H
          have A29 := mz A290
          clear A290
          by_cases c30 : t117 = true
          · subst c30
            have H1 : (some true) = some r := by rw [if_pos rfl] at H; exact H
            clear H
            have H := H1
            clear H1
            obtain rfl := Option.some.inj H
            try go_wp2
            have n0_ := mz (Kd.R_drew HO_112000.out)
            have n1_ := mz (blk_drew BK101.out)
            have n2_ := mz (blk_drew BK111.out)
            have n3_ := mz (below_drew1 HB.out)
            clear HO_112000
            clear BK101
            clear BK111
            clear HB
            have HO_112000 := n0_
            have BK101 := n1_
            have BK111 := n2_
            have HB := n3_
            clear n0_ n1_ n2_ n3_
            refine start_ (n := 5) (S := fun w' => w'.cell? ⟨gb111, 0, none⟩ = some (.slice Ao22 t108.length co22) ∧ w'.cell? ⟨gb101, 0, none⟩ = some (.slice A0_0 l0_0.length c0_0)) (ds := []) #[false, false, false, false, false] (by kernel_rfl) rfl rfl ⟨(blk_cell BK111.out 0).trans rfl, (blk_cell BK101.out 0).trans rfl⟩ (fun hHeld => ?_)
            generalize wc.drew = w31 at HO_112000 BK101 BK111 HB hHeld ⊢
            refine take_ (i := 0) (N := some 35) (v := ?_) (a' := ?_) #[true, false, false, false, false] rfl rfl (by kernel_rfl) (fun _ _ _ h => h) (Or.inl ⟨by rfl, ?_⟩) hHeld ?_ ?_
            rotate_left
            · rintro w' ⟨s0, s1⟩
              go_simp
              with_reducible rfl
            rotate_left
            · simp only [Act.put, List.setIfInBounds_toArray, List.set_cons_zero, List.set_cons_succ, i64_w, i32_w]
              rfl
            refine take_ (i := 1) (N := some 36) (v := ?_) (a' := ?_) #[true, true, false, false, false] rfl rfl (by kernel_rfl) (fun _ _ _ h => h) (Or.inl ⟨by rfl, ?_⟩) hHeld ?_ ?_
            rotate_left
            · rintro w' ⟨s0, s1⟩
              go_simp
              with_reducible rfl
            rotate_left
            · simp only [Act.put, List.setIfInBounds_toArray, List.set_cons_zero, List.set_cons_succ, i64_w, i32_w]
              rfl
            refine one_ (i := 2) (N := some 37) #[true, true, true, false, false] rfl rfl (by kernel_rfl) (by decide) (fun K hK => ?_)
            refine goes_ Try.func14 (by kernel_rfl) rfl #[.agg #[.slice A0_0 l0_0.length c0_0]] (by rfl) rfl rfl (by (try simp only [List.map_toArray, List.map_cons, List.map_nil]); first | done | rfl | (simp only [List.length_drop, List.length_take]; rfl)) ?_
            with_reducible refine (laws_toSeq.calls kj10 _ _ l0_0 t114 _ ?side1 ?side2 A28.out).mono ?_
            (case side1 => repeat (first | exact (Kd.C_below HR0_0.out HB.out) | (with_reducible refine Kd.C_alloc ?_ _) | (with_reducible refine Kd.C_drewN ?_ _) | (with_reducible refine Kd.C_drew ?_)))
            (case side2 => exact HC0_0.out)
            rintro e w32 ⟨v115, rfl, ho0, hb⟩
            refine ⟨_, rfl, ?_⟩
            have n0_ := mz (Kd.R_elder' (by (with_reducible repeat (first | apply Kd.R_alloc | apply Kd.R_drewN | apply Kd.R_drew)); exact HO_112000.out) (Kd.R_base ho0) hb)
            have n1_ := mz (Kd.R_lower (Kd.R_new' ho0 (Kd.R_lt (by (with_reducible repeat (first | apply Kd.R_alloc | apply Kd.R_drewN | apply Kd.R_drew)); exact HO_112000.out))) (below_size (by repeat (first | (with_reducible first | exact HB.out | apply below_alloc | apply pw_below_drewN | apply below_drew1 | refine below_set ?_ GE101.out | refine below_set ?_ GE111.out) | exact HB.out))))
            have n2_ := mz (blk_below (g := gb101) (o := .cells #[.slice A0_0 l0_0.length c0_0] 24 (0, 0)) (by (with_reducible repeat (first | refine blk_drewN ?_ _ | refine blk_drew ?_ | refine blk_alloc ?_ _)); exact BK101.out) hb)
            have n3_ := mz (blk_below (g := gb111) (o := .cells #[.slice Ao22 t108.length co22] 29 (0, 0)) (by (with_reducible repeat (first | refine blk_drewN ?_ _ | refine blk_drew ?_ | refine blk_alloc ?_ _)); exact BK111.out) hb)
            have n4_ := mz (below_step (by repeat (first | (with_reducible first | exact HB.out | apply below_alloc | apply pw_below_drewN | apply below_drew1 | refine below_set ?_ GE101.out | refine below_set ?_ GE111.out) | exact HB.out)) hb)
            clear HO_112000
            clear BK101
            clear BK111
            clear HB
            have HO_112000 := n0_
            have HO116 := n1_
            have BK101 := n2_
            have BK111 := n3_
            have HB := n4_
            clear n0_ n1_ n2_ n3_ n4_
            (try clear hb)
            (try clear hb2)
            (try clear hk)
            (try clear hi)
            (try clear ho0)
            obtain ⟨Ao33, co33, eo33⟩ := Kd.R_slice HO116.out
            (first | subst eo33 | (injection eo33 with f1_ f2_ f3_; have f4_ := f1_.symm; have f5_ := f3_.symm; clear f1_ f2_ f3_; subst f4_; subst f5_))
            refine hK.out _ _ ⟨(blk_cell BK111.out 0).trans rfl, (blk_cell BK101.out 0).trans rfl⟩ (fun hHeld => ?_)
            clear hK K
            refine norm_ (a' := ?_) ?_ ?_
            rotate_left
            · show Act.put _ (some 37) _ = _
              simp only [Act.put, List.setIfInBounds_toArray, List.set_cons_zero, List.set_cons_succ, i64_w, i32_w]
              rfl
            refine one_ (i := 3) (N := some 38) #[true, true, true, true, false] rfl rfl (by kernel_rfl) (by decide) (fun K hK => ?_)
            refine goes_ Try.func16 (by kernel_rfl) rfl #[.agg #[.slice Ao22 t108.length co22], .agg #[.slice Ao33 t114.length co33]] (by rfl) rfl rfl (by (try simp only [List.map_toArray, List.map_cons, List.map_nil]); first | done | rfl | (simp only [List.length_drop, List.length_take]; rfl)) ?_
            with_reducible refine (laws_eqSeq.calls kj10 _ _ t108 _ _ t114 true _ ?side1 ?side2 ?side3 ?side4 A29.out).mono ?_
            (case side1 => repeat (first | exact (Kd.R_reads' HO_112000.out).2.2 | (with_reducible refine Kd.C_alloc ?_ _) | (with_reducible refine Kd.C_drewN ?_ _) | (with_reducible refine Kd.C_drew ?_)))
            (case side2 => exact (Kd.R_reads' HO_112000.out).2.1)
            (case side3 => repeat (first | exact (Kd.R_reads' HO116.out).2.2 | (with_reducible refine Kd.C_alloc ?_ _) | (with_reducible refine Kd.C_drewN ?_ _) | (with_reducible refine Kd.C_drew ?_)))
            (case side4 => exact (Kd.R_reads' HO116.out).2.1)
            rintro e w34 ⟨rfl, hb⟩
            refine ⟨_, rfl, ?_⟩
            have n0_ := mz (Kd.R_below (by (with_reducible repeat (first | apply Kd.R_alloc | apply Kd.R_drewN | apply Kd.R_drew)); exact HO_112000.out) hb)
            have n1_ := mz (Kd.R_below (by (with_reducible repeat (first | apply Kd.R_alloc | apply Kd.R_drewN | apply Kd.R_drew)); exact HO116.out) hb)
            have n2_ := mz (blk_below (g := gb101) (o := .cells #[.slice A0_0 l0_0.length c0_0] 24 (0, 0)) (by (with_reducible repeat (first | refine blk_drewN ?_ _ | refine blk_drew ?_ | refine blk_alloc ?_ _)); exact BK101.out) hb)
            have n3_ := mz (blk_below (g := gb111) (o := .cells #[.slice Ao22 t108.length co22] 29 (0, 0)) (by (with_reducible repeat (first | refine blk_drewN ?_ _ | refine blk_drew ?_ | refine blk_alloc ?_ _)); exact BK111.out) hb)
            have n4_ := mz (below_step (by repeat (first | (with_reducible first | exact HB.out | apply below_alloc | apply pw_below_drewN | apply below_drew1 | refine below_set ?_ GE101.out | refine below_set ?_ GE111.out) | exact HB.out)) hb)
            clear HO_112000
            clear HO116
            clear BK101
            clear BK111
            clear HB
            have HO_112000 := n0_
            have HO116 := n1_
            have BK101 := n2_
            have BK111 := n3_
            have HB := n4_
            clear n0_ n1_ n2_ n3_ n4_
            (try clear hb)
            (try clear hb2)
            (try clear hk)
            (try clear hi)
            refine hK.out _ _ ⟨(blk_cell BK111.out 0).trans rfl, (blk_cell BK101.out 0).trans rfl⟩ (fun hHeld => ?_)
            clear hK K
            refine norm_ (a' := ?_) ?_ ?_
            rotate_left
            · show Act.put _ (some 38) _ = _
              simp only [Act.put, List.setIfInBounds_toArray, List.set_cons_zero, List.set_cons_succ, i64_w, i32_w]
              rfl
            refine pure_ (i := 4) (N := some 39) (v := ?_) (a' := ?_) #[true, true, true, true, true] rfl rfl (by kernel_rfl) (fun _ _ _ h => h) (Or.inl ⟨by rfl, ?_⟩) ?_ ?_
            rotate_left
            · intro w'
              go_simp
              with_reducible rfl
            rotate_left
            · simp only [Act.put, List.setIfInBounds_toArray, List.set_cons_zero, List.set_cons_succ, i64_w, i32_w]
              rfl
            refine done_ (by kernel_rfl) ?_
            try go_wp2
            go_ret
            exact ⟨by first | rfl | (simp [errW_none, errW_some] <;> rfl) | (simp [*, errW_none, errW_some] <;> rfl), by repeat (first | (with_reducible first | exact HB.out | apply below_alloc | apply pw_below_drewN | apply below_drew1 | refine below_set ?_ GE101.out | refine below_set ?_ GE111.out) | exact HB.out)⟩
          · replace c30 := Bool.eq_false_iff.mpr c30
            subst c30
            have H1 : (some false) = some r := by rw [if_neg (show ¬ (false = true) by decide)] at H; exact H
            clear H
            have H := H1
            clear H1
            obtain rfl := Option.some.inj H
            try go_wp2
            have n0_ := mz (Kd.R_drew HO_112000.out)
            have n1_ := mz (blk_drew BK101.out)
            have n2_ := mz (blk_drew BK111.out)
            have n3_ := mz (below_drew1 HB.out)
            clear HO_112000
            clear BK101
            clear BK111
            clear HB
            have HO_112000 := n0_
            have BK101 := n1_
            have BK111 := n2_
            have HB := n3_
            clear n0_ n1_ n2_ n3_
            refine start_ (n := 5) (S := fun w' => w'.cell? ⟨gb111, 0, none⟩ = some (.slice Ao22 t108.length co22) ∧ w'.cell? ⟨gb101, 0, none⟩ = some (.slice A0_0 l0_0.length c0_0)) (ds := []) #[false, false, false, false, false] (by kernel_rfl) rfl rfl ⟨(blk_cell BK111.out 0).trans rfl, (blk_cell BK101.out 0).trans rfl⟩ (fun hHeld => ?_)
            generalize wc.drew = w35 at HO_112000 BK101 BK111 HB hHeld ⊢
            refine take_ (i := 0) (N := some 35) (v := ?_) (a' := ?_) #[true, false, false, false, false] rfl rfl (by kernel_rfl) (fun _ _ _ h => h) (Or.inl ⟨by rfl, ?_⟩) hHeld ?_ ?_
            rotate_left
            · rintro w' ⟨s0, s1⟩
              go_simp
              with_reducible rfl
            rotate_left
            · simp only [Act.put, List.setIfInBounds_toArray, List.set_cons_zero, List.set_cons_succ, i64_w, i32_w]
              rfl
            refine take_ (i := 1) (N := some 36) (v := ?_) (a' := ?_) #[true, true, false, false, false] rfl rfl (by kernel_rfl) (fun _ _ _ h => h) (Or.inl ⟨by rfl, ?_⟩) hHeld ?_ ?_
            rotate_left
            · rintro w' ⟨s0, s1⟩
              go_simp
              with_reducible rfl
            rotate_left
            · simp only [Act.put, List.setIfInBounds_toArray, List.set_cons_zero, List.set_cons_succ, i64_w, i32_w]
              rfl
            refine one_ (i := 2) (N := some 37) #[true, true, true, false, false] rfl rfl (by kernel_rfl) (by decide) (fun K hK => ?_)
            refine goes_ Try.func14 (by kernel_rfl) rfl #[.agg #[.slice A0_0 l0_0.length c0_0]] (by rfl) rfl rfl (by (try simp only [List.map_toArray, List.map_cons, List.map_nil]); first | done | rfl | (simp only [List.length_drop, List.length_take]; rfl)) ?_
            with_reducible refine (laws_toSeq.calls kj10 _ _ l0_0 t114 _ ?side1 ?side2 A28.out).mono ?_
            (case side1 => repeat (first | exact (Kd.C_below HR0_0.out HB.out) | (with_reducible refine Kd.C_alloc ?_ _) | (with_reducible refine Kd.C_drewN ?_ _) | (with_reducible refine Kd.C_drew ?_)))
            (case side2 => exact HC0_0.out)
            rintro e w36 ⟨v115, rfl, ho0, hb⟩
            refine ⟨_, rfl, ?_⟩
            have n0_ := mz (Kd.R_elder' (by (with_reducible repeat (first | apply Kd.R_alloc | apply Kd.R_drewN | apply Kd.R_drew)); exact HO_112000.out) (Kd.R_base ho0) hb)
            have n1_ := mz (Kd.R_lower (Kd.R_new' ho0 (Kd.R_lt (by (with_reducible repeat (first | apply Kd.R_alloc | apply Kd.R_drewN | apply Kd.R_drew)); exact HO_112000.out))) (below_size (by repeat (first | (with_reducible first | exact HB.out | apply below_alloc | apply pw_below_drewN | apply below_drew1 | refine below_set ?_ GE101.out | refine below_set ?_ GE111.out) | exact HB.out))))
            have n2_ := mz (blk_below (g := gb101) (o := .cells #[.slice A0_0 l0_0.length c0_0] 24 (0, 0)) (by (with_reducible repeat (first | refine blk_drewN ?_ _ | refine blk_drew ?_ | refine blk_alloc ?_ _)); exact BK101.out) hb)
            have n3_ := mz (blk_below (g := gb111) (o := .cells #[.slice Ao22 t108.length co22] 29 (0, 0)) (by (with_reducible repeat (first | refine blk_drewN ?_ _ | refine blk_drew ?_ | refine blk_alloc ?_ _)); exact BK111.out) hb)
            have n4_ := mz (below_step (by repeat (first | (with_reducible first | exact HB.out | apply below_alloc | apply pw_below_drewN | apply below_drew1 | refine below_set ?_ GE101.out | refine below_set ?_ GE111.out) | exact HB.out)) hb)
            clear HO_112000
            clear BK101
            clear BK111
            clear HB
            have HO_112000 := n0_
            have HO116 := n1_
            have BK101 := n2_
            have BK111 := n3_
            have HB := n4_
            clear n0_ n1_ n2_ n3_ n4_
            (try clear hb)
            (try clear hb2)
            (try clear hk)
            (try clear hi)
            (try clear ho0)
            obtain ⟨Ao37, co37, eo37⟩ := Kd.R_slice HO116.out
            (first | subst eo37 | (injection eo37 with f1_ f2_ f3_; have f4_ := f1_.symm; have f5_ := f3_.symm; clear f1_ f2_ f3_; subst f4_; subst f5_))
            refine hK.out _ _ ⟨(blk_cell BK111.out 0).trans rfl, (blk_cell BK101.out 0).trans rfl⟩ (fun hHeld => ?_)
            clear hK K
            refine norm_ (a' := ?_) ?_ ?_
            rotate_left
            · show Act.put _ (some 37) _ = _
              simp only [Act.put, List.setIfInBounds_toArray, List.set_cons_zero, List.set_cons_succ, i64_w, i32_w]
              rfl
            refine one_ (i := 3) (N := some 38) #[true, true, true, true, false] rfl rfl (by kernel_rfl) (by decide) (fun K hK => ?_)
            refine goes_ Try.func16 (by kernel_rfl) rfl #[.agg #[.slice Ao22 t108.length co22], .agg #[.slice Ao37 t114.length co37]] (by rfl) rfl rfl (by (try simp only [List.map_toArray, List.map_cons, List.map_nil]); first | done | rfl | (simp only [List.length_drop, List.length_take]; rfl)) ?_
            with_reducible refine (laws_eqSeq.calls kj10 _ _ t108 _ _ t114 false _ ?side1 ?side2 ?side3 ?side4 A29.out).mono ?_
            (case side1 => repeat (first | exact (Kd.R_reads' HO_112000.out).2.2 | (with_reducible refine Kd.C_alloc ?_ _) | (with_reducible refine Kd.C_drewN ?_ _) | (with_reducible refine Kd.C_drew ?_)))
            (case side2 => exact (Kd.R_reads' HO_112000.out).2.1)
            (case side3 => repeat (first | exact (Kd.R_reads' HO116.out).2.2 | (with_reducible refine Kd.C_alloc ?_ _) | (with_reducible refine Kd.C_drewN ?_ _) | (with_reducible refine Kd.C_drew ?_)))
            (case side4 => exact (Kd.R_reads' HO116.out).2.1)
            rintro e w38 ⟨rfl, hb⟩
            refine ⟨_, rfl, ?_⟩
            have n0_ := mz (Kd.R_below (by (with_reducible repeat (first | apply Kd.R_alloc | apply Kd.R_drewN | apply Kd.R_drew)); exact HO_112000.out) hb)
            have n1_ := mz (Kd.R_below (by (with_reducible repeat (first | apply Kd.R_alloc | apply Kd.R_drewN | apply Kd.R_drew)); exact HO116.out) hb)
            have n2_ := mz (blk_below (g := gb101) (o := .cells #[.slice A0_0 l0_0.length c0_0] 24 (0, 0)) (by (with_reducible repeat (first | refine blk_drewN ?_ _ | refine blk_drew ?_ | refine blk_alloc ?_ _)); exact BK101.out) hb)
            have n3_ := mz (blk_below (g := gb111) (o := .cells #[.slice Ao22 t108.length co22] 29 (0, 0)) (by (with_reducible repeat (first | refine blk_drewN ?_ _ | refine blk_drew ?_ | refine blk_alloc ?_ _)); exact BK111.out) hb)
            have n4_ := mz (below_step (by repeat (first | (with_reducible first | exact HB.out | apply below_alloc | apply pw_below_drewN | apply below_drew1 | refine below_set ?_ GE101.out | refine below_set ?_ GE111.out) | exact HB.out)) hb)
            clear HO_112000
            clear HO116
            clear BK101
            clear BK111
            clear HB
            have HO_112000 := n0_
            have HO116 := n1_
            have BK101 := n2_
            have BK111 := n3_
            have HB := n4_
            clear n0_ n1_ n2_ n3_ n4_
            (try clear hb)
            (try clear hb2)
            (try clear hk)
            (try clear hi)
            refine hK.out _ _ ⟨(blk_cell BK111.out 0).trans rfl, (blk_cell BK101.out 0).trans rfl⟩ (fun hHeld => ?_)
            clear hK K
            refine norm_ (a' := ?_) ?_ ?_
            rotate_left
            · show Act.put _ (some 38) _ = _
              simp only [Act.put, List.setIfInBounds_toArray, List.set_cons_zero, List.set_cons_succ, i64_w, i32_w]
              rfl
            refine pure_ (i := 4) (N := some 39) (v := ?_) (a' := ?_) #[true, true, true, true, true] rfl rfl (by kernel_rfl) (fun _ _ _ h => h) (Or.inl ⟨by rfl, ?_⟩) ?_ ?_
            rotate_left
            · intro w'
              go_simp
              with_reducible rfl
            rotate_left
            · simp only [Act.put, List.setIfInBounds_toArray, List.set_cons_zero, List.set_cons_succ, i64_w, i32_w]
              rfl
            refine done_ (by kernel_rfl) ?_
            try go_wp2
            go_ret
            exact ⟨by first | rfl | (simp [errW_none, errW_some] <;> rfl) | (simp [*, errW_none, errW_some] <;> rfl), by repeat (first | (with_reducible first | exact HB.out | apply below_alloc | apply pw_below_drewN | apply below_drew1 | refine below_set ?_ GE101.out | refine below_set ?_ GE111.out) | exact HB.out)⟩
end
section
attribute [local go_sem] max2_int min2_int max_two min_two max_three min_three max_four min_four
def PureFnExactTextOfSeq : Prop := ∀ (x0 : S24), B24 x0 → ∃ k, laws_FnExactTextOfSeq.f k x0.f0 = some true
end
section
attribute [local go_sem] max2_int min2_int max_two min_two max_three min_three max_four min_four

end

section
attribute [local go_sem] max2_int min2_int max_two min_two max_three min_three max_four min_four

end
section
attribute [local go_sem] max2_int min2_int max_two min_two max_three min_three max_four min_four

end
section
attribute [local go_sem] max2_int min2_int max_two min_two max_three min_three max_four min_four

end
section
attribute [local go_sem] max2_int min2_int max_two min_two max_three min_three max_four min_four

end
section
attribute [local go_sem] max2_int min2_int max_two min_two max_three min_three max_four min_four

end
section
attribute [local go_sem] max2_int min2_int max_two min_two max_three min_three max_four min_four

end
section
attribute [local go_sem] max2_int min2_int max_two min_two max_three min_three max_four min_four

end

theorem specOrder_ev (l : List Atom) (hT : Tree l) : ∀ (d : Nat), d ≤ 80 → ∀ (t a : Int) (_ : ∀ j : Fin l.length, l[j].f2 = t → l[j].f3 = a → l.length ≤ j.1 + d) (out : List Int) (_ : out.length + 1000000 * (d + 1) ≤ 1000000000),
    Ev (fun k => spec_l17Order.f k l t a out) (out ++ ordL l (d + 1) t a) := by
  have hl80 := hT.len
  intro d
  induction d using Nat.strongRecOn with
  | ind d ih =>
    intro hd t a hch out ho
    have hloop : ∀ e j : Nat, j + e = l.length → Ev (fun k => spec_l17Order.l0 k l t a (out ++ ordP l d t a (backs l.length j)) ((l.length : Int) - 1 - (j : Int))) (out ++ ordL l (d + 1) t a) := by
      intro e
      induction e with
      | zero =>
        intro j h
        obtain rfl : j = l.length := by omega
        refine Ev.succ ?_
        simp only [spec_l17Order.l0, if_neg (show ¬ ((l.length : Int) - 1 - (l.length : Int) ≥ 0) by omega)]
        exact Ev.now _
      | succ e ihe =>
        intro j h
        have hi : l.length - 1 - j < l.length := by omega
        have e1 : (l.length : Int) - 1 - (j : Int) = ((l.length - 1 - j : Nat) : Int) := by omega
        have hb := backs_succ l.length j (by omega)
        have hp := ordP_snoc l d t a (backs l.length j) ⟨l.length - 1 - j, hi⟩
        rw [← hb] at hp
        have hnext := ihe (j + 1) (by omega)
        have hpl := ordP_len hT d (by omega) t a (backs l.length j)
        rw [backs_length _ _ (by omega)] at hpl
        have hc1 : l.length ≤ 80 := hl80
        have hx := hch ⟨l.length - 1 - j, hi⟩
        have hlt := hT.lt ⟨l.length - 1 - j, hi⟩
        have hpl2 : j * 6481 ≤ 80 * 6481 := Nat.mul_le_mul_right _ (by omega)
        rw [e1]
        refine Ev.succ ?_
        simp only [spec_l17Order.l0, if_pos (show (((l.length - 1 - j : Nat) : Int) ≥ 0) by omega), if_pos (show (0 : Int) ≤ ((l.length - 1 - j : Nat) : Int) by omega), if_pos (show (((l.length - 1 - j : Nat) : Int) < (l.length : Int)) by omega), rd_atom l (l.length - 1 - j) hi, w64 (n := ((l.length - 1 - j : Nat) : Int) - 1) (by omega) (by omega)]
        rw [show (((l.length - 1 - j : Nat) : Int) - 1) = (l.length : Int) - 1 - ((j + 1 : Nat) : Int) by omega]
        rw [hp] at hnext
        simp only [Fin.getElem_fin] at hnext hx hlt hp
        by_cases c1 : (l[l.length - 1 - j]).f2 = t
        · by_cases c2 : (l[l.length - 1 - j]).f3 = a
          · have hcm : ((l[l.length - 1 - j]).f2 == t && ((l[l.length - 1 - j]).f3 == a)) = true := by simp [c1, c2]
            have h0 := hx c1 c2
            obtain ⟨m, rfl⟩ : ∃ m, d = m + 1 := ⟨d - 1, by omega⟩
            rw [hcm, if_pos rfl] at hnext
            simp only [if_pos c1, if_pos c2]
            have hlen : (out ++ ordP l (m + 1) t a (backs l.length j)).length ≤ out.length + 518480 := by rw [List.length_append]; omega
            have hb2 := ord_bound (m := m) ho hlen
            simp only [if_pos (show (out ++ ordP l (m + 1) t a (backs l.length j)).length < 17592186044416 by omega)]
            refine Ev.bind (ih m (by omega) (by omega) (l[l.length - 1 - j]).f0 (l[l.length - 1 - j]).f1 (fun q h1 h2 => ?_) (out ++ ordP l (m + 1) t a (backs l.length j) ++ [((l.length - 1 - j : Nat) : Int)]) (by rw [List.length_append (bs := [_])]; simpa using hb2)) ?_
            · have := hlt q h1 h2
              omega
            · refine ev_eq ?_ rfl
              have e9 : out ++ ordP l (m + 1) t a (backs l.length j) ++ [((l.length - 1 - j : Nat) : Int)] ++ ordL l (m + 1) (l[l.length - 1 - j]).f0 (l[l.length - 1 - j]).f1 = out ++ (ordP l (m + 1) t a (backs l.length j) ++ ((l.length - 1 - j : Nat) : Int) :: ordL l (m + 1) (l[l.length - 1 - j]).f0 (l[l.length - 1 - j]).f1) := by simp
              rw [e9]
              exact hnext
          · have hcm : ((l[l.length - 1 - j]).f2 == t && ((l[l.length - 1 - j]).f3 == a)) = false := by simp [c2]
            rw [hcm, if_neg (by simp), List.append_nil] at hnext
            simp only [if_pos c1, if_neg c2]
            exact hnext
        · have hcm : ((l[l.length - 1 - j]).f2 == t && ((l[l.length - 1 - j]).f3 == a)) = false := by simp [c1]
          rw [hcm, if_neg (by simp), List.append_nil] at hnext
          simp only [if_neg c1]
          exact hnext
    have h0 := hloop l.length 0 (by omega)
    refine Ev.succ ?_
    simp only [spec_l17Order.f, w64 (n := (l.length : Int) - 1) (by omega) (by omega)]
    simpa [backs_nil, ordP] using h0
theorem specOrder_top (l : List Atom) (hT : Tree l) : Ev (fun k => spec_l17Order.f k l 0 0 []) (ordT l) := by
  have := specOrder_ev l hT 80 (Nat.le_refl _) 0 0 (fun j _ _ => by have := hT.len; omega) [] (by simp)
  simpa [ordT] using this
theorem ordT_short (l : List Atom) (hT : Tree l) : (ordT l).length ≤ 6480 := hT.short 81 0 0 (Nat.le_refl _)
theorem rd_ints (l : List Int) (i : Nat) (h : i < l.length) : rd l (i : Int) = l[i] := by
  simp [rd, List.getD_eq_getElem?_getD, h]
theorem ordT_in (l : List Atom) : ∀ i ∈ ordT l, ∃ j : Nat, j < l.length ∧ i = (j : Int) := by
  intro i hi
  obtain ⟨zs, hz⟩ := ordL_fin l 81 0 0
  have h1 : i ∈ ordL l 81 0 0 := hi
  rw [hz] at h1
  obtain ⟨z, _, rfl⟩ := List.mem_map.1 h1
  exact ⟨z.1, z.2, rfl⟩
theorem specShown_loop (l : List Atom) (hT : Tree l) (d : Nat) : ∀ (i : Nat) (out : List Int), i + d = (ordT l).length → out.length ≤ i →
    Ev (fun k => spec_l17Shown.l0 k out (ordT l) ((ordT l).length : Int) (i : Int) l) (out ++ ((ordT l).drop i).filter (shownB l)) := by
  have hl := ordT_short l hT
  induction d with
  | zero =>
    intro i out h ho
    refine Ev.succ ?_
    simp only [spec_l17Shown.l0, if_neg (show ¬ ((i : Int) < ((ordT l).length : Int)) by omega)]
    refine ev_eq (Ev.now _) ?_
    rw [List.drop_eq_nil_of_le (by omega)]; simp
  | succ d ih =>
    intro i out h ho
    have hi : i < (ordT l).length := by omega
    obtain ⟨j, hj, ej⟩ := ordT_in l _ (List.getElem_mem hi)
    have e : (ordT l).drop i = (j : Int) :: (ordT l).drop (i + 1) := by rw [List.drop_eq_getElem_cons hi, ej]
    refine Ev.succ ?_
    simp only [spec_l17Shown.l0, if_pos (show ((i : Int) < ((ordT l).length : Int)) by omega), if_pos (show (0 : Int) ≤ i by omega), rd_ints (ordT l) i hi, ej, if_pos (show (0 : Int) ≤ (j : Int) by omega), if_pos (show (j : Int) < (l.length : Int) by omega), w64 (show -9223372036854775808 ≤ (i : Int) + 1 by omega) (by omega)]
    rw [e, List.filter_cons]
    have hs : shownB l (j : Int) = !(rd_T61 l (j : Int)).f5 := rfl
    rw [hs]
    cases (rd_T61 l (j : Int)).f5 with
    | true =>
      simp only [if_true, Bool.not_true, Bool.false_eq_true, if_false]
      exact ih (i + 1) out (by omega) (by omega)
    | false =>
      simp only [Bool.false_eq_true, if_false, Bool.not_false, if_true, if_pos (show out.length < 17592186044416 by omega)]
      have := ih (i + 1) (out ++ [(j : Int)]) (by omega) (by simp; omega)
      simpa using this
theorem specShown_ev (l : List Atom) (hT : Tree l) : Ev (fun k => spec_l17Shown.f k l) (shownL l) := by
  unfold spec_l17Shown.f
  refine Ev.bind (specOrder_top l hT) ?_
  have := specShown_loop l hT (ordT l).length 0 [] (by omega) (by simp)
  simpa [shownL] using this
theorem specTextSeq_loop (l : List Atom) (hg : goodS l = true) (d : Nat) : ∀ (i : Nat) (s : ByteArray), i + d = (shownL l).length → s.size ≤ i →
    Ev (fun k => spec_TextOfSeq.l0 k s (shownL l) ((shownL l).length : Int) (i : Int) l) (bytesGo l ((shownL l).drop i) s, true) := by
  have hl := shownL_len l (tree_of_good hg).1
  induction d with
  | zero =>
    intro i s h hs
    refine Ev.succ ?_
    simp only [spec_TextOfSeq.l0, if_neg (show ¬ ((i : Int) < ((shownL l).length : Int)) by omega)]
    refine ev_eq (Ev.now _) ?_
    rw [List.drop_eq_nil_of_le (by omega)]; rfl
  | succ d ih =>
    intro i s h hs
    have hi : i < (shownL l).length := by omega
    obtain ⟨j, hj, ej⟩ := shownL_in l _ (List.getElem_mem hi)
    have e : (shownL l).drop i = (j : Int) :: (shownL l).drop (i + 1) := by rw [List.drop_eq_getElem_cons hi, ej]
    have h1 : (rd_T61 l (j : Int)).f4.size = 1 := by rw [rd_atom l j hj]; exact one_byte hg j hj
    refine Ev.succ ?_
    simp only [spec_TextOfSeq.l0, if_pos (show ((i : Int) < ((shownL l).length : Int)) by omega), if_pos (show (0 : Int) ≤ i by omega), rd_ints (shownL l) i hi, ej, if_pos (show (0 : Int) ≤ (j : Int) by omega), if_pos (show (j : Int) < (l.length : Int) by omega), w64 (show -9223372036854775808 ≤ (i : Int) + 1 by omega) (by omega)]
    rw [e, bytesGo]
    simp only [if_pos (show s.size + (rd_T61 l (j : Int)).f4.size ≤ 9223372036854775807 by omega)]
    exact ih (i + 1) _ (by omega) (by rw [ByteArray.size_append]; omega)
theorem specTextOfSeq_ev (l : List Atom) (hl : l.length ≤ 1048576) (hs : sizedA l = true) : Ev (fun k => spec_TextOfSeq.f k l) (textV l) := by
  unfold spec_TextOfSeq.f textV
  refine Ev.bind (specSeq_ev l (by omega) hs) ?_
  cases c : goodS l with
  | false => simp only [Bool.false_eq_true, if_false]; exact Ev.now _
  | true =>
    simp only [if_true]
    refine Ev.bind (specShown_ev l (tree_of_good c).1) ?_
    have := specTextSeq_loop l c (shownL l).length 0 ⟨#[]⟩ (by omega) (Nat.le_refl _)
    simpa using this
theorem implTextOfSeq_val (l : List Atom) (hs : sizedA l = true) : impl_TextOfSeq.f l = some (textV l) := by
  unfold impl_TextOfSeq.f
  rw [if_pos hs]
end Go.Proofs.Ytaofjlelclbioaa.X
namespace Go.Proofs.Ytaofjlelclbioaa.Pure
open Go.RowKit Go.Proofs.Ytaofjlelclbioaa.X Go.Proofs.YtaofjlelclbioaaW.PrintWords Go.Proofs.YtaofjlelclbioaaW.PrintLast
theorem FnExactTextOfSeq : PureFnExactTextOfSeq := by
  intro x hB
  refine Ev.rounds ?_
  unfold laws_FnExactTextOfSeq.f
  obtain ⟨hm, hA⟩ := hB
  obtain ⟨r, hr, _, hg⟩ := szSeq_ev x.f0 hm (fun e he => (hA e he).2.2.2.2.1) 1048576 (by omega) (by omega)
  refine Ev.bind hr ?_
  by_cases h : r < 0
  · simp only [if_pos h]; exact Ev.now _
  · simp only [if_neg h]
    have g := hg (by omega)
    have ht := toSeq_ev x.f0 g
    have hs := seqOf_sized x.f0 hA
    have hlen : (seqOf x.f0).length ≤ 1048576 := by rw [seqOf_length]; exact g
    have hv := implTextOfSeq_val (seqOf x.f0) hs
    have hsp := specTextOfSeq_ev (seqOf x.f0) hlen hs
    generalize textV (seqOf x.f0) = v at hv hsp
    obtain ⟨v1, v2⟩ := v
    refine Ev.bind ht ?_
    refine Ev.bind hsp ?_
    refine Ev.bind ht ?_
    simp only [hv, Option.bind_some, if_true, bne_self_eq_false]
    refine Ev.succ ?_
    simp only [laws_FnExactTextOfSeq.j0, Bool.false_eq_true, if_false]
    refine Ev.bind ht ?_
    refine Ev.bind (eqSeq_ev (seqOf x.f0) hlen) ?_
    simp only [if_true]
    exact Ev.now _
end Go.Proofs.Ytaofjlelclbioaa.Pure
namespace Go.Proofs.Ytaofjlelclbioaa.fnExactTextOfSeq
open Go.ChangeShapes Go.WideShapes Go.ChangeAt Go.RowKit
open Go.ChangeMaps (open_string shut_string)
open Go.Proofs.YtaofjlelclbioaaW.PrintWords Go.Proofs.Ytaofjlelclbioaa.X
set_option linter.unusedVariables false
theorem own : ownKnob Try.prog.godebug = none := by kernel_rfl
theorem laidOut : laidOutB Try.prog = true := by kernel_rfl
set_option maxRecDepth 100000 in
theorem lifted (os : Os) (started : os.Started) (H : Type) (enc : TypeId × Value → H) :
    ReturnsInHanded {} Try.checked os 5 .any (Rows.fnExactTextOfSeqSpec.pre6 enc Try.prog Try.f5 Rows.fnExactTextOfSeqRow.domain false) (Rows.fnExactTextOfSeqSpec.post enc Try.prog Try.f5 false true false false) := by
  refine returnsInHanded_of_change_sized (C := Try.checked) own started (by kernel_rfl) Try.func5
    (ChangeSpec.witness6 (enc := enc) (C := Try.checked) false ⟨#[], #[.agg #[.slice none 0 0]], []⟩ 8 (by kernel_rfl) (by kernel_rfl) (by kernel_rfl) (by kernel_rfl)) ?_
  intro W base args ds gs before hval0 hW hcnd hsz0 _
  have hval : ∀ (j : Nat) t v, Try.f5.params[j]? = some t → args[j]? = some v → Value.okWide Try.prog W .any base t v := hval0
  have hW' := hW
  obtain ⟨p, q, hA0, hV, rfl, hfz, hnd⟩ := hW
  have hA : DataW.TrodAll enc Try.prog W 0 (fun _ => true) true Try.f5.params.toList args.toList ds p := hA0
  rw [Try.params5] at hA hval
  obtain ⟨v0, vs0, d0, ds0, p0, q0, hargs, rfl, rfl, h0, r0⟩ := trodAll_cons hA
  obtain ⟨rfl, rfl, rfl⟩ := trodAll_nil r0
  obtain rfl : args = #[v0] := by cases args; simp_all
  obtain ⟨rfl, rfl⟩ := trodVars_none hV
  have k0 := h0
  have lt0 : ∀ x ∈ p0, x.block < W.heap.size := by obtain ⟨m, hm⟩ := k0; exact DataW.trod_lt m _ _ _ hm
  obtain ⟨fuel0, hf0⟩ := h0
  obtain ⟨cs0, rfl, _⟩ := okWide_struct Try.underlying24 (hval 0 24 v0 rfl rfl)
  obtain ⟨x0, K0, b0⟩ := opens_S24 H enc W _ _ _ hf0
  obtain ⟨A0_0, c0_0, he0, hc0_0, hr0_0⟩ := k24_open K0
  obtain rfl : cs0 = #[.slice A0_0 x0.f0.length c0_0] := by cases cs0; simp_all [Value.cells]
  clear hA0 hval0 hsz0
  have hP : PureFnExactTextOfSeq := Pure.FnExactTextOfSeq
  obtain ⟨k, hk⟩ := hP x0 b0
  refine (laws_FnExactTextOfSeq.calls k _ _ x0.f0 true W hr0_0 hc0_0 hk).mono fun e W' ⟨he, bel0⟩ => ?_
  have bel : Below W.heap.size W W' := bel0
  subst he
  exact ⟨_, rfl, _, _, _, [], _, [], hW', trodAll_mk1 (shut_bool Try.underlying4 _), (trodAll_cons_mk (Below.trod laidOut (by kernel_rfl) (of_decide_eq_true (by kernel_rfl)) k0 bel lt0) trodAll_mk0), rfl, bel.frame _, fun h => by cases h⟩
theorem over : Rows.fnExactTextOfSeqRow.holds Try.pinned (OpenSpec.ofChange Rows.fnExactTextOfSeqSpec) :=
  OpenClaim.holds_of_wide 5 Try.f5 rfl rfl rfl rfl rfl rfl rfl ⟨rfl, rfl, rfl, rfl, rfl⟩ rfl rfl rfl rfl rfl (by kernel_rfl) Try.func5 (by kernel_rfl)
    (of_decide_eq_true (by kernel_rfl)) (by unfold Func.isWrapper; first | (rw [if_pos (by decide +kernel)]; kernel_rfl) | (rw [if_neg (by decide +kernel)]; exact ⟨rfl, rfl⟩))
    (fun os started H enc _ => lifted os started H enc)
theorem proved : Rows.FnExactTextOfSeqSaid := over
#print axioms proved
end Go.Proofs.Ytaofjlelclbioaa.fnExactTextOfSeq
namespace Go.Proofs.Ytaofjlelclbioaa
theorem fnExactTextOfSeq_holds : Rows.FnExactTextOfSeqSaid := fnExactTextOfSeq.proved
end Go.Proofs.Ytaofjlelclbioaa
