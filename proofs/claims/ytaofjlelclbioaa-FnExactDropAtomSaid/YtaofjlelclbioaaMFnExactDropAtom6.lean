/- The law FnExactDropAtom of the program: its proof, part 6. -/
import Derived.Test.YtaofjlelclbioaaMFnExactDropAtom4
import Derived.Test.YtaofjlelclbioaaMFnExactDropAtom2
import Derived.Test.YtaofjlelclbioaaMFnExactDropAtom5
import Derived.Test.YtaofjlelclbioaaMFnExactDropAtom3
import Derived.Test.YtaofjlelclbioaaRows
import Derived.WalkKit
import Derived.ProofKit
import Derived.OpenShut
import Derived.ShutString
import Derived.ChangeOld
import Derived.Below
import Derived.SizedLaws
set_option linter.unusedVariables false
set_option linter.unusedSimpArgs false
namespace Go.Proofs.Ytaofjlelclbioaa.X
open Go.RowKit Go.Proofs.YtaofjlelclbioaaW.PrintWords Go.Proofs.YtaofjlelclbioaaW.PrintLast Go.Proofs.YtaofjlelclbioaaW.PrintMore
section
attribute [local go_sem] max2_int min2_int max_two min_two max_three min_three max_four min_four
mutual
def laws_FnExactDropAtom.j0 : Nat → Int → Bool → Bool → Bool → List (S96) → List (S61) → List (S61) → List (S61) → Option (Bool)
  | 0, _, _, _, _, _, _, _, _ => none
  | k + 1, x1, x7, x10, x44, x102000, x111000, x115000, x120000 => if x44 = true then (some false) else ((laws_toSeq.f k x102000).bind fun t121 => ((laws_eqSeq.f k x115000 t121).bind fun t124 => (if t124 = true then ((laws_markSeq.f k x115000 1).bind fun bt125 => (if bt125.1 < 0 then (laws_FnExactDropAtom.j1 k x1 x7 true x102000 x111000 x120000) else ((laws_eqSeq.f k x120000 x111000).bind fun t127 => (if t127 = true then (laws_FnExactDropAtom.j1 k x1 x7 (x10 != x7) x102000 x111000 x120000) else (laws_FnExactDropAtom.j1 k x1 x7 true x102000 x111000 x120000))))) else (some false))))
def laws_FnExactDropAtom.j1 : Nat → Int → Bool → Bool → List (S96) → List (S61) → List (S61) → Option (Bool)
  | 0, _, _, _, _, _, _ => none
  | k + 1, x1, x7, x65, x102000, x111000, x120000 => if x65 = true then (some false) else ((laws_markSeq.f k x120000 1).bind fun bt128 => ((laws_heldSeq.f k bt128.2 1).bind fun t130 => (if t130 < 0 then (some false) else (if t130 = bt128.1 then ((laws_toSeq.f k x102000).bind fun t131 => ((impl_DropAtom.f t131 x1).bind fun bt134 => ((laws_eqSeq.f k bt134.1 x111000).bind fun t139 => (if t139 = true then (laws_FnExactDropAtom.j2 k bt128.1 (bt134.2 != x7) bt128.2) else (laws_FnExactDropAtom.j2 k bt128.1 true bt128.2))))) else (some false)))))
def laws_FnExactDropAtom.j2 : Nat → Int → Bool → List (S61) → Option (Bool)
  | 0, _, _, _ => none
  | k + 1, x12, x92, x120000 => if x92 = true then (some false) else ((laws_heldSeq.f k x120000 1).bind fun t140 => (if t140 < 0 then (some false) else (if t140 = x12 then (some true) else (some false))))
end
def laws_FnExactDropAtom.f (k : Nat) (l0_0 : List (S96)) (a1 : Int) : Option (Bool) := (laws_szSeq.f k l0_0 1048576).bind fun t102 => (if t102 < 0 then (some true) else ((laws_toSeq.f k l0_0).bind fun t103 => ((spec_DropAtom.f k t103 a1).bind fun bt106 => ((laws_toSeq.f k l0_0).bind fun t111 => ((impl_DropAtom.f t111 a1).bind fun bt115 => ((laws_eqSeq.f k bt115.1 bt106.1).bind fun t120 => (if t120 = true then (laws_FnExactDropAtom.j0 k a1 bt106.2 bt115.2 (bt115.2 != bt106.2) l0_0 bt106.1 t111 bt115.1) else (laws_FnExactDropAtom.j0 k a1 bt106.2 bt115.2 true l0_0 bt106.1 t111 bt115.1))))))))
set_option maxHeartbeats 8000000 in
set_option maxRecDepth 100000 in
theorem laws_FnExactDropAtom.calls (k : Nat) (A0_0 : Option Addr) (c0_0 : Nat) (l0_0 : List (S96)) (a1 : Int) (r : Bool) (w : World) (hr0_0 : Kd.C k96 w A0_0 l0_0.length l0_0) (hc0_0 : l0_0.length ≤ c0_0) (h : laws_FnExactDropAtom.f k l0_0 a1 = some r) :
    Calls Try.prog 7 #[.agg #[.slice A0_0 l0_0.length c0_0], .int .i64 a1] w fun e w' => e = .returned (.bool r) ∧ Below w.heap.size w w' := by
  have hu24 := Try.underlying24
  have hu29 := Try.underlying29
  have HR0_0 := mz hr0_0
  have HC0_0 := mz hc0_0
  clear hr0_0 hc0_0
  have HB := mz (Below.refl w.heap.size w)
  have H : ((laws_szSeq.f k l0_0 1048576).bind fun t102 => (if t102 < 0 then (some true) else ((laws_toSeq.f k l0_0).bind fun t103 => ((spec_DropAtom.f k t103 a1).bind fun bt106 => ((laws_toSeq.f k l0_0).bind fun t111 => ((impl_DropAtom.f t111 a1).bind fun bt115 => ((laws_eqSeq.f k bt115.1 bt106.1).bind fun t120 => (if t120 = true then (laws_FnExactDropAtom.j0 k a1 bt106.2 bt115.2 (bt115.2 != bt106.2) l0_0 bt106.1 t111 bt115.1) else (laws_FnExactDropAtom.j0 k a1 bt106.2 bt115.2 true l0_0 bt106.1 t111 bt115.1))))))))) = some r := h
  clear h
  replace H := be0_ H
  obtain ⟨t102, A30, H⟩ := H
  replace H : (if t102 < 0 then (some true) else ((laws_toSeq.f k l0_0).bind fun t103 => ((spec_DropAtom.f k t103 a1).bind fun bt106 => ((laws_toSeq.f k l0_0).bind fun t111 => ((impl_DropAtom.f t111 a1).bind fun bt115 => ((laws_eqSeq.f k bt115.1 bt106.1).bind fun t120 => (if t120 = true then (laws_FnExactDropAtom.j0 k a1 bt106.2 bt115.2 (bt115.2 != bt106.2) l0_0 bt106.1 t111 bt115.1) else (laws_FnExactDropAtom.j0 k a1 bt106.2 bt115.2 true l0_0 bt106.1 t111 bt115.1)))))))) = some r := H
  have A3 := mz A30
  clear A30
  by_cases c4 : t102 < 0
  · rw [if_pos c4] at H
    have c4b0 : decide (t102 < 0) = true := decide_eq_true c4
    clear c4
    obtain rfl := Option.some.inj H
    go_enter Try.func7, Try.ntmps7
    go_wp2_with (first | ((with_reducible refine gate_dst (N := 2) rfl ?_); refine box_event ?hg (N := 2) ?hd (cs := #[.slice A0_0 l0_0.length c0_0]) (t := 24) ?hr ?_; (case hd => rfl); (case hg => rfl); (case hr => first | (go_simp; done) | (go_simp; rfl)); intro gb101 hg w5 hbox hb; have n0_ := mz (below_step (by repeat (first | (with_reducible first | exact HB.out | apply below_alloc | apply pw_below_drewN | apply below_drew1) | exact HB.out)) hb); have n1_ := mz (hbox); have n2_ := mz ((by rw [hg]; exact (below_size (by repeat (first | (with_reducible first | exact HB.out | apply below_alloc | apply pw_below_drewN | apply below_drew1) | exact HB.out))) : w.heap.size ≤ gb101)); have n3_ := mz ((by rw [hg]; exact (below_size (by repeat (first | (with_reducible first | exact HB.out | apply below_alloc | apply pw_below_drewN | apply below_drew1) | exact HB.out))) : w.heap.size ≤ gb101)); clear HB; have HB := n0_; have BK101 := n1_; have GW101 := n2_; have GE101 := n3_; clear n0_ n1_ n2_ n3_; clear hb hbox hg; have hcz6_0 : w5.cell? ⟨gb101, 0, none⟩ = some (.slice A0_0 l0_0.length c0_0) := (blk_cell BK101.out 0).trans rfl; have hfz6_0 := blk_frozen BK101.out 0) | ((with_reducible refine gate_callee (f := 12) rfl ?_); refine goesL_ (some 18) rfl rfl Try.func12 (by kernel_rfl) rfl #[.agg #[.slice A0_0 l0_0.length c0_0], .int .i64 1048576] rfl (by (try simp only [List.map_toArray, List.map_cons, List.map_nil]); first | done | rfl | (simp only [List.length_drop, List.length_take]; rfl)) ?_; (with_reducible refine (laws_szSeq.calls k _ _ l0_0 1048576 t102 _ ?side1 ?side2 A3.out).mono ?_); (case side1 => repeat (first | exact (Kd.C_below HR0_0.out HB.out) | (with_reducible refine Kd.C_alloc ?_ _) | (with_reducible refine Kd.C_drewN ?_ _) | (with_reducible refine Kd.C_drew ?_))); (case side2 => exact HC0_0.out); rintro e w7 ⟨rfl, hb⟩; refine ⟨_, rfl, ?_⟩; have n0_ := mz (blk_below (g := gb101) (o := .cells #[.slice A0_0 l0_0.length c0_0] 24 (0, 0)) (by (with_reducible repeat (first | refine blk_drewN ?_ _ | refine blk_drew ?_ | refine blk_alloc ?_ _)); exact BK101.out) hb); have n1_ := mz (below_step (by repeat (first | (with_reducible first | exact HB.out | apply below_alloc | apply pw_below_drewN | apply below_drew1 | refine below_set ?_ GE101.out) | exact HB.out)) hb); clear BK101; clear HB; have BK101 := n0_; have HB := n1_; clear n0_ n1_; (try clear hb); (try clear hb2); (try clear hk); (try clear hi)))
    go_ret
    exact ⟨by first | rfl | (simp [errW_none, errW_some] <;> rfl) | (simp [*, errW_none, errW_some] <;> rfl), by repeat (first | (with_reducible first | exact HB.out | apply below_alloc | apply pw_below_drewN | apply below_drew1 | refine below_set ?_ GE101.out) | exact HB.out)⟩
  · rw [if_neg c4] at H
    have c4b0 : decide (t102 < 0) = false := decide_eq_false c4
    clear c4
    replace H := be0_ H
    obtain ⟨t103, A80, H⟩ := H
    replace H : ((spec_DropAtom.f k t103 a1).bind fun bt106 => ((laws_toSeq.f k l0_0).bind fun t111 => ((impl_DropAtom.f t111 a1).bind fun bt115 => ((laws_eqSeq.f k bt115.1 bt106.1).bind fun t120 => (if t120 = true then (laws_FnExactDropAtom.j0 k a1 bt106.2 bt115.2 (bt115.2 != bt106.2) l0_0 bt106.1 t111 bt115.1) else (laws_FnExactDropAtom.j0 k a1 bt106.2 bt115.2 true l0_0 bt106.1 t111 bt115.1)))))) = some r := H
    have A8 := mz A80
    clear A80
    replace H := be0_ H
    obtain ⟨⟨t106, t109⟩, A90, H⟩ := H
    replace H : ((laws_toSeq.f k l0_0).bind fun t111 => ((impl_DropAtom.f t111 a1).bind fun bt115 => ((laws_eqSeq.f k bt115.1 t106).bind fun t120 => (if t120 = true then (laws_FnExactDropAtom.j0 k a1 t109 bt115.2 (bt115.2 != t109) l0_0 t106 t111 bt115.1) else (laws_FnExactDropAtom.j0 k a1 t109 bt115.2 true l0_0 t106 t111 bt115.1))))) = some r := H
    have A9 := mz A90
    clear A90
    replace H := be0_ H
    obtain ⟨t111, A100, H⟩ := H
    replace H : ((impl_DropAtom.f t111 a1).bind fun bt115 => ((laws_eqSeq.f k bt115.1 t106).bind fun t120 => (if t120 = true then (laws_FnExactDropAtom.j0 k a1 t109 bt115.2 (bt115.2 != t109) l0_0 t106 t111 bt115.1) else (laws_FnExactDropAtom.j0 k a1 t109 bt115.2 true l0_0 t106 t111 bt115.1)))) = some r := H
    have A10 := mz A100
    clear A100
    replace H := be0_ H
    obtain ⟨⟨t115, t118⟩, A110, H⟩ := H
    replace H : ((laws_eqSeq.f k t115 t106).bind fun t120 => (if t120 = true then (laws_FnExactDropAtom.j0 k a1 t109 t118 (t118 != t109) l0_0 t106 t111 t115) else (laws_FnExactDropAtom.j0 k a1 t109 t118 true l0_0 t106 t111 t115))) = some r := H
    have A11 := mz A110
    clear A110
    have HC12 := mz H
    clear H
    go_enter Try.func7, Try.ntmps7
    go_upto_region 8 with (first | ((with_reducible refine gate_dst (N := 2) rfl ?_); refine box_event ?hg (N := 2) ?hd (cs := #[.slice A0_0 l0_0.length c0_0]) (t := 24) ?hr ?_; (case hd => rfl); (case hg => rfl); (case hr => first | (go_simp; done) | (go_simp; rfl)); intro gb101 hg w13 hbox hb; have n0_ := mz (below_step (by repeat (first | (with_reducible first | exact HB.out | apply below_alloc | apply pw_below_drewN | apply below_drew1) | exact HB.out)) hb); have n1_ := mz (hbox); have n2_ := mz ((by rw [hg]; exact (below_size (by repeat (first | (with_reducible first | exact HB.out | apply below_alloc | apply pw_below_drewN | apply below_drew1) | exact HB.out))) : w.heap.size ≤ gb101)); have n3_ := mz ((by rw [hg]; exact (below_size (by repeat (first | (with_reducible first | exact HB.out | apply below_alloc | apply pw_below_drewN | apply below_drew1) | exact HB.out))) : w.heap.size ≤ gb101)); clear HB; have HB := n0_; have BK101 := n1_; have GW101 := n2_; have GE101 := n3_; clear n0_ n1_ n2_ n3_; clear hb hbox hg; have hcz14_0 : w13.cell? ⟨gb101, 0, none⟩ = some (.slice A0_0 l0_0.length c0_0) := (blk_cell BK101.out 0).trans rfl; have hfz14_0 := blk_frozen BK101.out 0) | ((with_reducible refine gate_callee (f := 12) rfl ?_); refine goesL_ (some 18) rfl rfl Try.func12 (by kernel_rfl) rfl #[.agg #[.slice A0_0 l0_0.length c0_0], .int .i64 1048576] rfl (by (try simp only [List.map_toArray, List.map_cons, List.map_nil]); first | done | rfl | (simp only [List.length_drop, List.length_take]; rfl)) ?_; (with_reducible refine (laws_szSeq.calls k _ _ l0_0 1048576 t102 _ ?side1 ?side2 A3.out).mono ?_); (case side1 => repeat (first | exact (Kd.C_below HR0_0.out HB.out) | (with_reducible refine Kd.C_alloc ?_ _) | (with_reducible refine Kd.C_drewN ?_ _) | (with_reducible refine Kd.C_drew ?_))); (case side2 => exact HC0_0.out); rintro e w15 ⟨rfl, hb⟩; refine ⟨_, rfl, ?_⟩; have n0_ := mz (blk_below (g := gb101) (o := .cells #[.slice A0_0 l0_0.length c0_0] 24 (0, 0)) (by (with_reducible repeat (first | refine blk_drewN ?_ _ | refine blk_drew ?_ | refine blk_alloc ?_ _)); exact BK101.out) hb); have n1_ := mz (below_step (by repeat (first | (with_reducible first | exact HB.out | apply below_alloc | apply pw_below_drewN | apply below_drew1 | refine below_set ?_ GE101.out) | exact HB.out)) hb); clear BK101; clear HB; have BK101 := n0_; have HB := n1_; clear n0_ n1_; (try clear hb); (try clear hb2); (try clear hk); (try clear hi); have hcz16_0 : w15.cell? ⟨gb101, 0, none⟩ = some (.slice A0_0 l0_0.length c0_0) := (blk_cell BK101.out 0).trans rfl; have hfz16_0 := blk_frozen BK101.out 0) | ((with_reducible refine gate_callee (f := 14) rfl ?_); refine goesL_ (some 23) rfl rfl Try.func14 (by kernel_rfl) rfl #[.agg #[.slice A0_0 l0_0.length c0_0]] rfl (by (try simp only [List.map_toArray, List.map_cons, List.map_nil]); first | done | rfl | (simp only [List.length_drop, List.length_take]; rfl)) ?_; (with_reducible refine (laws_toSeq.calls k _ _ l0_0 t103 _ ?side1 ?side2 A8.out).mono ?_); (case side1 => repeat (first | exact (Kd.C_below HR0_0.out HB.out) | (with_reducible refine Kd.C_alloc ?_ _) | (with_reducible refine Kd.C_drewN ?_ _) | (with_reducible refine Kd.C_drew ?_))); (case side2 => exact HC0_0.out); rintro e w17 ⟨v104, rfl, ho0, hb⟩; refine ⟨_, rfl, ?_⟩; have n0_ := mz (Kd.R_lower ho0 (below_size (by repeat (first | (with_reducible first | exact HB.out | apply below_alloc | apply pw_below_drewN | apply below_drew1 | refine below_set ?_ GE101.out) | exact HB.out)))); have n1_ := mz (blk_below (g := gb101) (o := .cells #[.slice A0_0 l0_0.length c0_0] 24 (0, 0)) (by (with_reducible repeat (first | refine blk_drewN ?_ _ | refine blk_drew ?_ | refine blk_alloc ?_ _)); exact BK101.out) hb); have n2_ := mz (below_step (by repeat (first | (with_reducible first | exact HB.out | apply below_alloc | apply pw_below_drewN | apply below_drew1 | refine below_set ?_ GE101.out) | exact HB.out)) hb); clear BK101; clear HB; have HO105 := n0_; have BK101 := n1_; have HB := n2_; clear n0_ n1_ n2_; (try clear hb); (try clear hb2); (try clear hk); (try clear hi); (try clear ho0); obtain ⟨Ao18, co18, eo18⟩ := Kd.R_slice HO105.out; subst eo18) | ((with_reducible refine gate_callee (f := 27) rfl ?_); refine goesL_ (some 25) rfl rfl Try.func27 (by kernel_rfl) rfl #[.agg #[.slice Ao18 t103.length co18], .int .i64 a1] rfl (by (try simp only [List.map_toArray, List.map_cons, List.map_nil]); first | done | rfl | (simp only [List.length_drop, List.length_take]; rfl)) ?_; (with_reducible refine (spec_DropAtom.calls k _ _ t103 a1 t106 t109 _ ?side1 ?side2 A9.out).mono ?_); (case side1 => repeat (first | exact (Kd.R_reads' HO105.out).2.2 | (with_reducible refine Kd.C_alloc ?_ _) | (with_reducible refine Kd.C_drewN ?_ _) | (with_reducible refine Kd.C_drew ?_))); (case side2 => exact (Kd.R_reads' HO105.out).2.1); rintro e w19 ⟨v107, rfl, ho0, hb⟩; refine ⟨_, rfl, ?_⟩; have n0_ := mz (Kd.R_elder' (by (with_reducible repeat (first | apply Kd.R_alloc | apply Kd.R_drewN | apply Kd.R_drew)); exact HO105.out) (Kd.R_base ho0) hb); have n1_ := mz (Kd.R_lower (Kd.R_new' ho0 (Kd.R_lt (by (with_reducible repeat (first | apply Kd.R_alloc | apply Kd.R_drewN | apply Kd.R_drew)); exact HO105.out))) (below_size (by repeat (first | (with_reducible first | exact HB.out | apply below_alloc | apply pw_below_drewN | apply below_drew1 | refine below_set ?_ GE101.out) | exact HB.out)))); have n2_ := mz (blk_below (g := gb101) (o := .cells #[.slice A0_0 l0_0.length c0_0] 24 (0, 0)) (by (with_reducible repeat (first | refine blk_drewN ?_ _ | refine blk_drew ?_ | refine blk_alloc ?_ _)); exact BK101.out) hb); have n3_ := mz (below_step (by repeat (first | (with_reducible first | exact HB.out | apply below_alloc | apply pw_below_drewN | apply below_drew1 | refine below_set ?_ GE101.out) | exact HB.out)) hb); clear HO105; clear BK101; clear HB; have HO105 := n0_; have HO108 := n1_; have BK101 := n2_; have HB := n3_; clear n0_ n1_ n2_ n3_; (try clear hb); (try clear hb2); (try clear hk); (try clear hi); (try clear ho0)) | ((with_reducible refine gate_dst (N := 6) rfl ?_); refine box_event ?hg (N := 6) ?hd (cs := #[.slice none 0 0]) (t := 29) ?hr ?_; (case hd => rfl); (case hg => rfl); (case hr => first | (go_simp; done) | (go_simp; rfl)); intro gb110 hg w20 hbox hb; have n0_ := mz (Kd.R_below (by (with_reducible repeat (first | apply Kd.R_alloc | apply Kd.R_drewN | apply Kd.R_drew)); exact HO105.out) hb); have n1_ := mz (Kd.R_below (by (with_reducible repeat (first | apply Kd.R_alloc | apply Kd.R_drewN | apply Kd.R_drew)); exact HO108.out) hb); have n2_ := mz (blk_below (g := gb101) (o := .cells #[.slice A0_0 l0_0.length c0_0] 24 (0, 0)) (by (with_reducible repeat (first | refine blk_drewN ?_ _ | refine blk_drew ?_ | refine blk_alloc ?_ _)); exact BK101.out) hb); have n3_ := mz (below_step (by repeat (first | (with_reducible first | exact HB.out | apply below_alloc | apply pw_below_drewN | apply below_drew1 | refine below_set ?_ GE101.out) | exact HB.out)) hb); have n4_ := mz (hbox); have n5_ := mz ((by rw [hg]; exact (below_size (by repeat (first | (with_reducible first | exact HB.out | apply below_alloc | apply pw_below_drewN | apply below_drew1 | refine below_set ?_ GE101.out) | exact HB.out))) : w.heap.size ≤ gb110)); have n6_ := mz ((by rw [hg]; exact (below_size (by repeat (first | (with_reducible first | exact HB.out | apply below_alloc | apply pw_below_drewN | apply below_drew1 | refine below_set ?_ GE101.out) | exact HB.out))) : w.heap.size ≤ gb110)); have n7_ := mz ((by rw [hg]; exact Nat.ne_of_lt (blk_lt (g := gb101) (o := .cells #[.slice A0_0 l0_0.length c0_0] 24 (0, 0)) (by (with_reducible repeat (first | refine blk_drewN ?_ _ | refine blk_drew ?_ | refine blk_alloc ?_ _)); exact BK101.out)) : gb101 ≠ gb110)); have n8_ := mz ((by rw [hg]; exact Nat.ne_of_gt (blk_lt (g := gb101) (o := .cells #[.slice A0_0 l0_0.length c0_0] 24 (0, 0)) (by (with_reducible repeat (first | refine blk_drewN ?_ _ | refine blk_drew ?_ | refine blk_alloc ?_ _)); exact BK101.out)) : gb110 ≠ gb101)); clear HO105; clear HO108; clear BK101; clear HB; have HO105 := n0_; have HO108 := n1_; have BK101 := n2_; have HB := n3_; have BK110 := n4_; have GW110 := n5_; have GE110 := n6_; have NB101_110 := n7_; have NB110_101 := n8_; clear n0_ n1_ n2_ n3_ n4_ n5_ n6_ n7_ n8_; clear hb hbox hg; obtain ⟨Ao21, co21, eo21⟩ := Kd.R_slice HO108.out; subst eo21; have hnb22 := NB110_101.out; have hnc22 := NB101_110.out; have hcz23_0 : w20.cell? ⟨gb110, 0, none⟩ = some (.slice none 0 0) := (blk_cell BK110.out 0).trans rfl; have hfz23_0 := blk_frozen BK110.out 0; have hcz24_0 : w20.cell? ⟨gb101, 0, none⟩ = some (.slice A0_0 l0_0.length c0_0) := (blk_cell BK101.out 0).trans rfl; have hfz24_0 := blk_frozen BK101.out 0) | ((with_reducible refine gate_callee (f := 14) rfl ?_); refine goesL_ (some 29) rfl rfl Try.func14 (by kernel_rfl) rfl #[.agg #[.slice A0_0 l0_0.length c0_0]] rfl (by (try simp only [List.map_toArray, List.map_cons, List.map_nil]); first | done | rfl | (simp only [List.length_drop, List.length_take]; rfl)) ?_; (with_reducible refine (laws_toSeq.calls k _ _ l0_0 t111 _ ?side1 ?side2 A10.out).mono ?_); (case side1 => exact Kd.C_below HR0_0.out (by repeat (first | (with_reducible first | exact HB.out | apply below_alloc | apply pw_below_drewN | apply below_drew1 | refine below_set ?_ GE101.out | refine below_set ?_ GE110.out) | exact HB.out))); (case side2 => exact HC0_0.out); rintro e w25 ⟨v112, rfl, ho0, hb⟩; refine ⟨_, rfl, ?_⟩; have n0_ := mz (Kd.R_elder' (by (with_reducible repeat (first | apply Kd.R_alloc | apply Kd.R_drewN | apply Kd.R_drew)); exact (Kd.R_mono (Kd.R_far (p := ⟨gb110, 0, none⟩) (Kd.R_types HO105.out BK110.out (by decide)) (fun _ hk => hk.2) (.slice Ao21 t106.length co21)) (fun _ h_ => h_.1))) (Kd.R_base ho0) hb); have n1_ := mz (Kd.R_elder' (by (with_reducible repeat (first | apply Kd.R_alloc | apply Kd.R_drewN | apply Kd.R_drew)); exact (Kd.R_mono (Kd.R_far (p := ⟨gb110, 0, none⟩) (Kd.R_types HO108.out BK110.out (by decide)) (fun _ hk => hk.2) (.slice Ao21 t106.length co21)) (fun _ h_ => h_.1))) (Kd.R_base ho0) hb); have n2_ := mz (Kd.R_lower (Kd.R_new' (Kd.R_new' ho0 (Kd.R_lt (by (with_reducible repeat (first | apply Kd.R_alloc | apply Kd.R_drewN | apply Kd.R_drew)); exact (Kd.R_mono (Kd.R_far (p := ⟨gb110, 0, none⟩) (Kd.R_types HO105.out BK110.out (by decide)) (fun _ hk => hk.2) (.slice Ao21 t106.length co21)) (fun _ h_ => h_.1))))) (Kd.R_lt (by (with_reducible repeat (first | apply Kd.R_alloc | apply Kd.R_drewN | apply Kd.R_drew)); exact (Kd.R_mono (Kd.R_far (p := ⟨gb110, 0, none⟩) (Kd.R_types HO108.out BK110.out (by decide)) (fun _ hk => hk.2) (.slice Ao21 t106.length co21)) (fun _ h_ => h_.1))))) (below_size (by repeat (first | (with_reducible first | exact HB.out | apply below_alloc | apply pw_below_drewN | apply below_drew1 | refine below_set ?_ GE101.out | refine below_set ?_ GE110.out) | exact HB.out)))); have n3_ := mz (blk_below (g := gb101) (o := .cells #[.slice A0_0 l0_0.length c0_0] 24 (0, 0)) (by (with_reducible repeat (first | refine blk_drewN ?_ _ | refine blk_drew ?_ | refine blk_alloc ?_ _)); refine blk_far ?_ NB101_110.out _; (with_reducible repeat (first | refine blk_drewN ?_ _ | refine blk_drew ?_ | refine blk_alloc ?_ _)); exact BK101.out) hb); have n4_ := mz (blk_below (g := gb110) (o := .cells #[.slice Ao21 t106.length co21] 29 (0, 0)) (by (with_reducible repeat (first | refine blk_drewN ?_ _ | refine blk_drew ?_ | refine blk_alloc ?_ _)); refine blk_put (cs := #[.slice none 0 0]) ?_ 0 _ rfl; (with_reducible repeat (first | refine blk_drewN ?_ _ | refine blk_drew ?_ | refine blk_alloc ?_ _)); exact BK110.out) hb); have n5_ := mz (below_step (by repeat (first | (with_reducible first | exact HB.out | apply below_alloc | apply pw_below_drewN | apply below_drew1 | refine below_set ?_ GE101.out | refine below_set ?_ GE110.out) | exact HB.out)) hb); clear HO105; clear HO108; clear BK101; clear BK110; clear HB; have HO105 := n0_; have HO108 := n1_; have HO113 := n2_; have BK101 := n3_; have BK110 := n4_; have HB := n5_; clear n0_ n1_ n2_ n3_ n4_ n5_; (try clear hb); (try clear hb2); (try clear hk); (try clear hi); (try clear ho0)) | ((with_reducible refine gate_dst (N := 8) rfl ?_); refine box_event ?hg (N := 8) ?hd (cs := #[.slice none 0 0]) (t := 29) ?hr ?_; (case hd => rfl); (case hg => rfl); (case hr => first | (go_simp; done) | (go_simp; rfl)); intro gb114 hg w26 hbox hb; have n0_ := mz (Kd.R_below (by (with_reducible repeat (first | apply Kd.R_alloc | apply Kd.R_drewN | apply Kd.R_drew)); exact HO105.out) hb); have n1_ := mz (Kd.R_below (by (with_reducible repeat (first | apply Kd.R_alloc | apply Kd.R_drewN | apply Kd.R_drew)); exact HO108.out) hb); have n2_ := mz (Kd.R_below (by (with_reducible repeat (first | apply Kd.R_alloc | apply Kd.R_drewN | apply Kd.R_drew)); exact HO113.out) hb); have n3_ := mz (blk_below (g := gb101) (o := .cells #[.slice A0_0 l0_0.length c0_0] 24 (0, 0)) (by (with_reducible repeat (first | refine blk_drewN ?_ _ | refine blk_drew ?_ | refine blk_alloc ?_ _)); exact BK101.out) hb); have n4_ := mz (blk_below (g := gb110) (o := .cells #[.slice Ao21 t106.length co21] 29 (0, 0)) (by (with_reducible repeat (first | refine blk_drewN ?_ _ | refine blk_drew ?_ | refine blk_alloc ?_ _)); exact BK110.out) hb); have n5_ := mz (below_step (by repeat (first | (with_reducible first | exact HB.out | apply below_alloc | apply pw_below_drewN | apply below_drew1 | refine below_set ?_ GE101.out | refine below_set ?_ GE110.out) | exact HB.out)) hb); have n6_ := mz (hbox); have n7_ := mz ((by rw [hg]; exact (below_size (by repeat (first | (with_reducible first | exact HB.out | apply below_alloc | apply pw_below_drewN | apply below_drew1 | refine below_set ?_ GE101.out | refine below_set ?_ GE110.out) | exact HB.out))) : w.heap.size ≤ gb114)); have n8_ := mz ((by rw [hg]; exact (below_size (by repeat (first | (with_reducible first | exact HB.out | apply below_alloc | apply pw_below_drewN | apply below_drew1 | refine below_set ?_ GE101.out | refine below_set ?_ GE110.out) | exact HB.out))) : w.heap.size ≤ gb114)); have n9_ := mz ((by rw [hg]; exact Nat.ne_of_lt (blk_lt (g := gb101) (o := .cells #[.slice A0_0 l0_0.length c0_0] 24 (0, 0)) (by (with_reducible repeat (first | refine blk_drewN ?_ _ | refine blk_drew ?_ | refine blk_alloc ?_ _)); exact BK101.out)) : gb101 ≠ gb114)); have n10_ := mz ((by rw [hg]; exact Nat.ne_of_gt (blk_lt (g := gb101) (o := .cells #[.slice A0_0 l0_0.length c0_0] 24 (0, 0)) (by (with_reducible repeat (first | refine blk_drewN ?_ _ | refine blk_drew ?_ | refine blk_alloc ?_ _)); exact BK101.out)) : gb114 ≠ gb101)); have n11_ := mz ((by rw [hg]; exact Nat.ne_of_lt (blk_lt (g := gb110) (o := .cells #[.slice Ao21 t106.length co21] 29 (0, 0)) (by (with_reducible repeat (first | refine blk_drewN ?_ _ | refine blk_drew ?_ | refine blk_alloc ?_ _)); exact BK110.out)) : gb110 ≠ gb114)); have n12_ := mz ((by rw [hg]; exact Nat.ne_of_gt (blk_lt (g := gb110) (o := .cells #[.slice Ao21 t106.length co21] 29 (0, 0)) (by (with_reducible repeat (first | refine blk_drewN ?_ _ | refine blk_drew ?_ | refine blk_alloc ?_ _)); exact BK110.out)) : gb114 ≠ gb110)); clear HO105; clear HO108; clear HO113; clear BK101; clear BK110; clear HB; have HO105 := n0_; have HO108 := n1_; have HO113 := n2_; have BK101 := n3_; have BK110 := n4_; have HB := n5_; have BK114 := n6_; have GW114 := n7_; have GE114 := n8_; have NB101_114 := n9_; have NB114_101 := n10_; have NB110_114 := n11_; have NB114_110 := n12_; clear n0_ n1_ n2_ n3_ n4_ n5_ n6_ n7_ n8_ n9_ n10_ n11_ n12_; clear hb hbox hg; obtain ⟨Ao27, co27, eo27⟩ := Kd.R_slice HO113.out; subst eo27; have hnb28 := NB114_101.out; have hnc28 := NB101_114.out; have hnb29 := NB114_110.out; have hnc29 := NB110_114.out; have hcz30_0 : w26.cell? ⟨gb114, 0, none⟩ = some (.slice none 0 0) := (blk_cell BK114.out 0).trans rfl; have hfz30_0 := blk_frozen BK114.out 0) | ((with_reducible refine gate_callee (f := 28) rfl ?_); refine goesL_ (some 33) rfl rfl Try.func28 (by kernel_rfl) rfl #[.agg #[.slice Ao27 t111.length co27], .int .i64 a1] rfl (by (try simp only [List.map_toArray, List.map_cons, List.map_nil]); first | done | rfl | (simp only [List.length_drop, List.length_take]; rfl)) ?_; (with_reducible refine (impl_DropAtom.calls _ _ t111 a1 t115 t118 _ ?side1 ?side2 A11.out).mono ?_); (case side1 => refine (Kd.R_reads' (e := 61) (base := w.heap.size) (ok := fun k_ => ((True ∧ some k_ ≠ (.slice Ao18 t103.length co18 : Value).ownBlock) ∧ some k_ ≠ (.slice Ao21 t106.length co21 : Value).ownBlock)) (n := t111.length) (c := co27) ?_).2.2; exact (by (with_reducible repeat (first | apply Kd.R_alloc | apply Kd.R_drewN | apply Kd.R_drew)); exact (Kd.R_mono (Kd.R_far (p := ⟨gb114, 0, none⟩) (Kd.R_types HO113.out BK114.out (by decide)) (fun _ hk => hk.2) (.slice Ao27 t111.length co27)) (fun _ h_ => h_.1)))); (case side2 => exact (Kd.R_reads' HO113.out).2.1); rintro e w31 ⟨v116, rfl, ho0, hb⟩; refine ⟨_, rfl, ?_⟩; have n0_ := mz (Kd.R_elder' (by (with_reducible repeat (first | apply Kd.R_alloc | apply Kd.R_drewN | apply Kd.R_drew)); exact (Kd.R_mono (Kd.R_far (p := ⟨gb114, 0, none⟩) (Kd.R_types HO105.out BK114.out (by decide)) (fun _ hk => hk.2) (.slice Ao27 t111.length co27)) (fun _ h_ => h_.1))) (Kd.R_base ho0) hb); have n1_ := mz (Kd.R_elder' (by (with_reducible repeat (first | apply Kd.R_alloc | apply Kd.R_drewN | apply Kd.R_drew)); exact (Kd.R_mono (Kd.R_far (p := ⟨gb114, 0, none⟩) (Kd.R_types HO108.out BK114.out (by decide)) (fun _ hk => hk.2) (.slice Ao27 t111.length co27)) (fun _ h_ => h_.1))) (Kd.R_base ho0) hb); have n2_ := mz (Kd.R_elder' (by (with_reducible repeat (first | apply Kd.R_alloc | apply Kd.R_drewN | apply Kd.R_drew)); exact (Kd.R_mono (Kd.R_far (p := ⟨gb114, 0, none⟩) (Kd.R_types HO113.out BK114.out (by decide)) (fun _ hk => hk.2) (.slice Ao27 t111.length co27)) (fun _ h_ => h_.1))) (Kd.R_base ho0) hb); have n3_ := mz (Kd.R_lower (Kd.R_new' (Kd.R_new' (Kd.R_new' ho0 (Kd.R_lt (by (with_reducible repeat (first | apply Kd.R_alloc | apply Kd.R_drewN | apply Kd.R_drew)); exact (Kd.R_mono (Kd.R_far (p := ⟨gb114, 0, none⟩) (Kd.R_types HO105.out BK114.out (by decide)) (fun _ hk => hk.2) (.slice Ao27 t111.length co27)) (fun _ h_ => h_.1))))) (Kd.R_lt (by (with_reducible repeat (first | apply Kd.R_alloc | apply Kd.R_drewN | apply Kd.R_drew)); exact (Kd.R_mono (Kd.R_far (p := ⟨gb114, 0, none⟩) (Kd.R_types HO108.out BK114.out (by decide)) (fun _ hk => hk.2) (.slice Ao27 t111.length co27)) (fun _ h_ => h_.1))))) (Kd.R_lt (by (with_reducible repeat (first | apply Kd.R_alloc | apply Kd.R_drewN | apply Kd.R_drew)); exact (Kd.R_mono (Kd.R_far (p := ⟨gb114, 0, none⟩) (Kd.R_types HO113.out BK114.out (by decide)) (fun _ hk => hk.2) (.slice Ao27 t111.length co27)) (fun _ h_ => h_.1))))) (below_size (by repeat (first | (with_reducible first | exact HB.out | apply below_alloc | apply pw_below_drewN | apply below_drew1 | refine below_set ?_ GE101.out | refine below_set ?_ GE110.out | refine below_set ?_ GE114.out) | exact HB.out)))); have n4_ := mz (blk_below (g := gb101) (o := .cells #[.slice A0_0 l0_0.length c0_0] 24 (0, 0)) (by (with_reducible repeat (first | refine blk_drewN ?_ _ | refine blk_drew ?_ | refine blk_alloc ?_ _)); refine blk_far ?_ NB101_114.out _; (with_reducible repeat (first | refine blk_drewN ?_ _ | refine blk_drew ?_ | refine blk_alloc ?_ _)); exact BK101.out) hb); have n5_ := mz (blk_below (g := gb110) (o := .cells #[.slice Ao21 t106.length co21] 29 (0, 0)) (by (with_reducible repeat (first | refine blk_drewN ?_ _ | refine blk_drew ?_ | refine blk_alloc ?_ _)); refine blk_far ?_ NB110_114.out _; (with_reducible repeat (first | refine blk_drewN ?_ _ | refine blk_drew ?_ | refine blk_alloc ?_ _)); exact BK110.out) hb); have n6_ := mz (blk_below (g := gb114) (o := .cells #[.slice Ao27 t111.length co27] 29 (0, 0)) (by (with_reducible repeat (first | refine blk_drewN ?_ _ | refine blk_drew ?_ | refine blk_alloc ?_ _)); refine blk_put (cs := #[.slice none 0 0]) ?_ 0 _ rfl; (with_reducible repeat (first | refine blk_drewN ?_ _ | refine blk_drew ?_ | refine blk_alloc ?_ _)); exact BK114.out) hb); have n7_ := mz (below_step (by repeat (first | (with_reducible first | exact HB.out | apply below_alloc | apply pw_below_drewN | apply below_drew1 | refine below_set ?_ GE101.out | refine below_set ?_ GE110.out | refine below_set ?_ GE114.out) | exact HB.out)) hb); clear HO105; clear HO108; clear HO113; clear BK101; clear BK110; clear BK114; clear HB; have HO105 := n0_; have HO108 := n1_; have HO113 := n2_; have HO117 := n3_; have BK101 := n4_; have BK110 := n5_; have BK114 := n6_; have HB := n7_; clear n0_ n1_ n2_ n3_ n4_ n5_ n6_ n7_; (try clear hb); (try clear hb2); (try clear hk); (try clear hi); (try clear ho0)) | ((with_reducible refine gate_dst (N := 9) rfl ?_); refine box_event ?hg (N := 9) ?hd (cs := #[.slice none 0 0]) (t := 29) ?hr ?_; (case hd => rfl); (case hg => rfl); (case hr => first | (go_simp; done) | (go_simp; rfl)); intro gb119 hg w32 hbox hb; have n0_ := mz (Kd.R_below (by (with_reducible repeat (first | apply Kd.R_alloc | apply Kd.R_drewN | apply Kd.R_drew)); exact HO105.out) hb); have n1_ := mz (Kd.R_below (by (with_reducible repeat (first | apply Kd.R_alloc | apply Kd.R_drewN | apply Kd.R_drew)); exact HO108.out) hb); have n2_ := mz (Kd.R_below (by (with_reducible repeat (first | apply Kd.R_alloc | apply Kd.R_drewN | apply Kd.R_drew)); exact HO113.out) hb); have n3_ := mz (Kd.R_below (by (with_reducible repeat (first | apply Kd.R_alloc | apply Kd.R_drewN | apply Kd.R_drew)); exact HO117.out) hb); have n4_ := mz (blk_below (g := gb101) (o := .cells #[.slice A0_0 l0_0.length c0_0] 24 (0, 0)) (by (with_reducible repeat (first | refine blk_drewN ?_ _ | refine blk_drew ?_ | refine blk_alloc ?_ _)); exact BK101.out) hb); have n5_ := mz (blk_below (g := gb110) (o := .cells #[.slice Ao21 t106.length co21] 29 (0, 0)) (by (with_reducible repeat (first | refine blk_drewN ?_ _ | refine blk_drew ?_ | refine blk_alloc ?_ _)); exact BK110.out) hb); have n6_ := mz (blk_below (g := gb114) (o := .cells #[.slice Ao27 t111.length co27] 29 (0, 0)) (by (with_reducible repeat (first | refine blk_drewN ?_ _ | refine blk_drew ?_ | refine blk_alloc ?_ _)); exact BK114.out) hb); have n7_ := mz (below_step (by repeat (first | (with_reducible first | exact HB.out | apply below_alloc | apply pw_below_drewN | apply below_drew1 | refine below_set ?_ GE101.out | refine below_set ?_ GE110.out | refine below_set ?_ GE114.out) | exact HB.out)) hb); have n8_ := mz (hbox); have n9_ := mz ((by rw [hg]; exact (below_size (by repeat (first | (with_reducible first | exact HB.out | apply below_alloc | apply pw_below_drewN | apply below_drew1 | refine below_set ?_ GE101.out | refine below_set ?_ GE110.out | refine below_set ?_ GE114.out) | exact HB.out))) : w.heap.size ≤ gb119)); have n10_ := mz ((by rw [hg]; exact (below_size (by repeat (first | (with_reducible first | exact HB.out | apply below_alloc | apply pw_below_drewN | apply below_drew1 | refine below_set ?_ GE101.out | refine below_set ?_ GE110.out | refine below_set ?_ GE114.out) | exact HB.out))) : w.heap.size ≤ gb119)); have n11_ := mz ((by rw [hg]; exact Nat.ne_of_lt (blk_lt (g := gb101) (o := .cells #[.slice A0_0 l0_0.length c0_0] 24 (0, 0)) (by (with_reducible repeat (first | refine blk_drewN ?_ _ | refine blk_drew ?_ | refine blk_alloc ?_ _)); exact BK101.out)) : gb101 ≠ gb119)); have n12_ := mz ((by rw [hg]; exact Nat.ne_of_gt (blk_lt (g := gb101) (o := .cells #[.slice A0_0 l0_0.length c0_0] 24 (0, 0)) (by (with_reducible repeat (first | refine blk_drewN ?_ _ | refine blk_drew ?_ | refine blk_alloc ?_ _)); exact BK101.out)) : gb119 ≠ gb101)); have n13_ := mz ((by rw [hg]; exact Nat.ne_of_lt (blk_lt (g := gb110) (o := .cells #[.slice Ao21 t106.length co21] 29 (0, 0)) (by (with_reducible repeat (first | refine blk_drewN ?_ _ | refine blk_drew ?_ | refine blk_alloc ?_ _)); exact BK110.out)) : gb110 ≠ gb119)); have n14_ := mz ((by rw [hg]; exact Nat.ne_of_gt (blk_lt (g := gb110) (o := .cells #[.slice Ao21 t106.length co21] 29 (0, 0)) (by (with_reducible repeat (first | refine blk_drewN ?_ _ | refine blk_drew ?_ | refine blk_alloc ?_ _)); exact BK110.out)) : gb119 ≠ gb110)); have n15_ := mz ((by rw [hg]; exact Nat.ne_of_lt (blk_lt (g := gb114) (o := .cells #[.slice Ao27 t111.length co27] 29 (0, 0)) (by (with_reducible repeat (first | refine blk_drewN ?_ _ | refine blk_drew ?_ | refine blk_alloc ?_ _)); exact BK114.out)) : gb114 ≠ gb119)); have n16_ := mz ((by rw [hg]; exact Nat.ne_of_gt (blk_lt (g := gb114) (o := .cells #[.slice Ao27 t111.length co27] 29 (0, 0)) (by (with_reducible repeat (first | refine blk_drewN ?_ _ | refine blk_drew ?_ | refine blk_alloc ?_ _)); exact BK114.out)) : gb119 ≠ gb114)); clear HO105; clear HO108; clear HO113; clear HO117; clear BK101; clear BK110; clear BK114; clear HB; have HO105 := n0_; have HO108 := n1_; have HO113 := n2_; have HO117 := n3_; have BK101 := n4_; have BK110 := n5_; have BK114 := n6_; have HB := n7_; have BK119 := n8_; have GW119 := n9_; have GE119 := n10_; have NB101_119 := n11_; have NB119_101 := n12_; have NB110_119 := n13_; have NB119_110 := n14_; have NB114_119 := n15_; have NB119_114 := n16_; clear n0_ n1_ n2_ n3_ n4_ n5_ n6_ n7_ n8_ n9_ n10_ n11_ n12_ n13_ n14_ n15_ n16_; clear hb hbox hg; obtain ⟨Ao33, co33, eo33⟩ := Kd.R_slice HO117.out; subst eo33; have hnb34 := NB119_101.out; have hnc34 := NB101_119.out; have hnb35 := NB119_110.out; have hnc35 := NB110_119.out; have hnb36 := NB119_114.out; have hnc36 := NB114_119.out; have hcz37_0 : w32.cell? ⟨gb119, 0, none⟩ = some (.slice none 0 0) := (blk_cell BK119.out 0).trans rfl; have hfz37_0 := blk_frozen BK119.out 0))
    (try simp only [Act.put, List.setIfInBounds_toArray, List.set_cons_zero, List.set_cons_succ])
    go_cut [44] (fun v44 wc => ∃ (kq : Nat) (x44_11 : Bool), v44 = .bool x44_11 ∧ Aside0 (laws_FnExactDropAtom.j0 kq a1 t109 t118 x44_11 l0_0 t106 t111 t115 = some r) ∧ Aside0 (kq ≤ k) ∧ Aside0 (Kd.R k61 61 wc w.heap.size (fun k_ => some k_ ≠ ((.slice Ao27 t111.length co27) : Value).ownBlock ∧ some k_ ≠ ((.slice Ao33 t115.length co33) : Value).ownBlock) (.slice Ao21 t106.length co21) t106) ∧ Aside0 (Kd.R k61 61 wc w.heap.size (fun k_ => some k_ ≠ ((.slice Ao21 t106.length co21) : Value).ownBlock ∧ some k_ ≠ ((.slice Ao33 t115.length co33) : Value).ownBlock) (.slice Ao27 t111.length co27) t111) ∧ Aside0 (Kd.R k61 61 wc w.heap.size (fun k_ => some k_ ≠ ((.slice Ao21 t106.length co21) : Value).ownBlock ∧ some k_ ≠ ((.slice Ao27 t111.length co27) : Value).ownBlock) (.slice Ao33 t115.length co33) t115) ∧ Aside0 (wc.heap[gb101]? = some (.cells #[(.slice A0_0 l0_0.length c0_0)] 24 (0, 0))) ∧ Aside0 (wc.heap[gb110]? = some (.cells #[(.slice Ao21 t106.length co21)] 29 (0, 0))) ∧ Aside0 (wc.heap[gb114]? = some (.cells #[(.slice Ao27 t111.length co27)] 29 (0, 0))) ∧ Aside0 (wc.heap[gb119]? = some (.cells #[(.slice Ao33 t115.length co33)] 29 (0, 0))) ∧ Aside0 (Below w.heap.size w wc))
    case first =>
      have H := HC12.out
      clear HC12
      replace H := be0_ H
      obtain ⟨t120, A380, H⟩ := H
      replace H : (if t120 = true then (laws_FnExactDropAtom.j0 k a1 t109 t118 (t118 != t109) l0_0 t106 t111 t115) else (laws_FnExactDropAtom.j0 k a1 t109 t118 true l0_0 t106 t111 t115)) = some r := H
      have A38 := mz A380
      clear A380
      by_cases c39 : t120 = true
      · subst c39
        have H1 : (laws_FnExactDropAtom.j0 k a1 t109 t118 (t118 != t109) l0_0 t106 t111 t115) = some r := by rw [if_pos rfl] at H; exact H
        clear H
        have H := H1
        clear H1
        have H' := mz H
        clear H
        have hnb40 := NB119_101.out
        have hnc40 := NB101_119.out
        have hnb41 := NB119_110.out
        have hnc41 := NB110_119.out
        have hnb42 := NB119_114.out
        have hnc42 := NB114_119.out
        have hcz43_0 : w32.cell? ⟨gb119, 0, none⟩ = some (.slice none 0 0) := (blk_cell BK119.out 0).trans rfl
        have hfz43_0 := blk_frozen BK119.out 0
        have hnb44 := NB110_101.out
        have hnc44 := NB101_110.out
        have hnb45 := NB110_114.out
        have hnc45 := NB114_110.out
        have hcz46_0 : w32.cell? ⟨gb110, 0, none⟩ = some (.slice Ao21 t106.length co21) := (blk_cell BK110.out 0).trans rfl
        have hfz46_0 := blk_frozen BK110.out 0
        go_wp2_with (first | ((with_reducible refine gate_callee (f := 16) rfl ?_); refine goesL_ (some 38) rfl rfl Try.func16 (by kernel_rfl) rfl #[.agg #[.slice Ao33 t115.length co33], .agg #[.slice Ao21 t106.length co21]] rfl (by (try simp only [List.map_toArray, List.map_cons, List.map_nil]); first | done | rfl | (simp only [List.length_drop, List.length_take]; rfl)) ?_; (with_reducible refine (laws_eqSeq.calls k _ _ t115 _ _ t106 true _ ?side1 ?side2 ?side3 ?side4 A38.out).mono ?_); (case side1 => refine (Kd.R_reads' (e := 61) (base := w.heap.size) (ok := fun k_ => (((True ∧ some k_ ≠ (.slice Ao18 t103.length co18 : Value).ownBlock) ∧ some k_ ≠ (.slice Ao21 t106.length co21 : Value).ownBlock) ∧ some k_ ≠ (.slice Ao27 t111.length co27 : Value).ownBlock)) (n := t115.length) (c := co33) ?_).2.2; exact (by (with_reducible repeat (first | apply Kd.R_alloc | apply Kd.R_drewN | apply Kd.R_drew)); exact (Kd.R_mono (Kd.R_far (p := ⟨gb119, 0, none⟩) (Kd.R_types HO117.out BK119.out (by decide)) (fun _ hk => hk.2) (.slice Ao33 t115.length co33)) (fun _ h_ => h_.1)))); (case side2 => exact (Kd.R_reads' HO117.out).2.1); (case side3 => refine (Kd.R_reads' (e := 61) (base := w.heap.size) (ok := fun k_ => (((True ∧ some k_ ≠ (.slice Ao18 t103.length co18 : Value).ownBlock) ∧ some k_ ≠ (.slice Ao27 t111.length co27 : Value).ownBlock) ∧ some k_ ≠ (.slice Ao33 t115.length co33 : Value).ownBlock)) (n := t106.length) (c := co21) ?_).2.2; exact (by (with_reducible repeat (first | apply Kd.R_alloc | apply Kd.R_drewN | apply Kd.R_drew)); exact (Kd.R_mono (Kd.R_far (p := ⟨gb119, 0, none⟩) (Kd.R_types HO108.out BK119.out (by decide)) (fun _ hk => hk.2) (.slice Ao33 t115.length co33)) (fun _ h_ => h_.1)))); (case side4 => exact (Kd.R_reads' HO108.out).2.1); rintro e w47 ⟨rfl, hb⟩; refine ⟨_, rfl, ?_⟩; have n0_ := mz (Kd.R_below (by (with_reducible repeat (first | apply Kd.R_alloc | apply Kd.R_drewN | apply Kd.R_drew)); exact (Kd.R_mono (Kd.R_far (p := ⟨gb119, 0, none⟩) (Kd.R_types HO105.out BK119.out (by decide)) (fun _ hk => hk.2) (.slice Ao33 t115.length co33)) (fun _ h_ => h_.1))) hb); have n1_ := mz (Kd.R_below (by (with_reducible repeat (first | apply Kd.R_alloc | apply Kd.R_drewN | apply Kd.R_drew)); exact (Kd.R_mono (Kd.R_far (p := ⟨gb119, 0, none⟩) (Kd.R_types HO108.out BK119.out (by decide)) (fun _ hk => hk.2) (.slice Ao33 t115.length co33)) (fun _ h_ => h_.1))) hb); have n2_ := mz (Kd.R_below (by (with_reducible repeat (first | apply Kd.R_alloc | apply Kd.R_drewN | apply Kd.R_drew)); exact (Kd.R_mono (Kd.R_far (p := ⟨gb119, 0, none⟩) (Kd.R_types HO113.out BK119.out (by decide)) (fun _ hk => hk.2) (.slice Ao33 t115.length co33)) (fun _ h_ => h_.1))) hb); have n3_ := mz (Kd.R_below (by (with_reducible repeat (first | apply Kd.R_alloc | apply Kd.R_drewN | apply Kd.R_drew)); exact (Kd.R_mono (Kd.R_far (p := ⟨gb119, 0, none⟩) (Kd.R_types HO117.out BK119.out (by decide)) (fun _ hk => hk.2) (.slice Ao33 t115.length co33)) (fun _ h_ => h_.1))) hb); have n4_ := mz (blk_below (g := gb101) (o := .cells #[.slice A0_0 l0_0.length c0_0] 24 (0, 0)) (by (with_reducible repeat (first | refine blk_drewN ?_ _ | refine blk_drew ?_ | refine blk_alloc ?_ _)); refine blk_far ?_ NB101_119.out _; (with_reducible repeat (first | refine blk_drewN ?_ _ | refine blk_drew ?_ | refine blk_alloc ?_ _)); exact BK101.out) hb); have n5_ := mz (blk_below (g := gb110) (o := .cells #[.slice Ao21 t106.length co21] 29 (0, 0)) (by (with_reducible repeat (first | refine blk_drewN ?_ _ | refine blk_drew ?_ | refine blk_alloc ?_ _)); refine blk_far ?_ NB110_119.out _; (with_reducible repeat (first | refine blk_drewN ?_ _ | refine blk_drew ?_ | refine blk_alloc ?_ _)); exact BK110.out) hb); have n6_ := mz (blk_below (g := gb114) (o := .cells #[.slice Ao27 t111.length co27] 29 (0, 0)) (by (with_reducible repeat (first | refine blk_drewN ?_ _ | refine blk_drew ?_ | refine blk_alloc ?_ _)); refine blk_far ?_ NB114_119.out _; (with_reducible repeat (first | refine blk_drewN ?_ _ | refine blk_drew ?_ | refine blk_alloc ?_ _)); exact BK114.out) hb); have n7_ := mz (blk_below (g := gb119) (o := .cells #[.slice Ao33 t115.length co33] 29 (0, 0)) (by (with_reducible repeat (first | refine blk_drewN ?_ _ | refine blk_drew ?_ | refine blk_alloc ?_ _)); refine blk_put (cs := #[.slice none 0 0]) ?_ 0 _ rfl; (with_reducible repeat (first | refine blk_drewN ?_ _ | refine blk_drew ?_ | refine blk_alloc ?_ _)); exact BK119.out) hb); have n8_ := mz (below_step (by repeat (first | (with_reducible first | exact HB.out | apply below_alloc | apply pw_below_drewN | apply below_drew1 | refine below_set ?_ GE101.out | refine below_set ?_ GE110.out | refine below_set ?_ GE114.out | refine below_set ?_ GE119.out) | exact HB.out)) hb); clear HO105; clear HO108; clear HO113; clear HO117; clear BK101; clear BK110; clear BK114; clear BK119; clear HB; have HO105 := n0_; have HO108 := n1_; have HO113 := n2_; have HO117 := n3_; have BK101 := n4_; have BK110 := n5_; have BK114 := n6_; have BK119 := n7_; have HB := n8_; clear n0_ n1_ n2_ n3_ n4_ n5_ n6_ n7_ n8_; (try clear hb); (try clear hb2); (try clear hk); (try clear hi)))
        go_meet
        case rel => exact ⟨_, ((t118 != t109)), (by first | rfl | (simp; done) | (simp [*]; done)), H', ⟨by first | omega | exact Nat.le_refl _⟩, ⟨by (with_reducible repeat (first | apply Kd.R_alloc | apply Kd.R_drewN | apply Kd.R_drew)); exact Kd.R_mono HO108.out (fun _ hk => ⟨hk.1.2, hk.2⟩)⟩, ⟨by (with_reducible repeat (first | apply Kd.R_alloc | apply Kd.R_drewN | apply Kd.R_drew)); exact Kd.R_mono HO113.out (fun _ hk => ⟨hk.1.2, hk.2⟩)⟩, ⟨by (with_reducible repeat (first | apply Kd.R_alloc | apply Kd.R_drewN | apply Kd.R_drew)); exact Kd.R_mono HO117.out (fun _ hk => ⟨hk.1.2, hk.2⟩)⟩, ⟨by (with_reducible repeat (first | refine blk_drewN ?_ _ | refine blk_drew ?_ | refine blk_alloc ?_ _)); exact BK101.out⟩, ⟨by (with_reducible repeat (first | refine blk_drewN ?_ _ | refine blk_drew ?_ | refine blk_alloc ?_ _)); exact BK110.out⟩, ⟨by (with_reducible repeat (first | refine blk_drewN ?_ _ | refine blk_drew ?_ | refine blk_alloc ?_ _)); exact BK114.out⟩, ⟨by (with_reducible repeat (first | refine blk_drewN ?_ _ | refine blk_drew ?_ | refine blk_alloc ?_ _)); exact BK119.out⟩, ⟨by repeat (first | (with_reducible first | exact HB.out | apply below_alloc | apply pw_below_drewN | apply below_drew1 | refine below_set ?_ GE101.out | refine below_set ?_ GE110.out | refine below_set ?_ GE114.out | refine below_set ?_ GE119.out) | exact HB.out)⟩⟩
      · replace c39 := Bool.eq_false_iff.mpr c39
        subst c39
        have H1 : (laws_FnExactDropAtom.j0 k a1 t109 t118 true l0_0 t106 t111 t115) = some r := by rw [if_neg (show ¬ (false = true) by decide)] at H; exact H
        clear H
        have H := H1
        clear H1
        have H' := mz H
        clear H
        have hnb48 := NB119_101.out
        have hnc48 := NB101_119.out
        have hnb49 := NB119_110.out
        have hnc49 := NB110_119.out
        have hnb50 := NB119_114.out
        have hnc50 := NB114_119.out
        have hcz51_0 : w32.cell? ⟨gb119, 0, none⟩ = some (.slice none 0 0) := (blk_cell BK119.out 0).trans rfl
        have hfz51_0 := blk_frozen BK119.out 0
        have hnb52 := NB110_101.out
        have hnc52 := NB101_110.out
        have hnb53 := NB110_114.out
        have hnc53 := NB114_110.out
        have hcz54_0 : w32.cell? ⟨gb110, 0, none⟩ = some (.slice Ao21 t106.length co21) := (blk_cell BK110.out 0).trans rfl
        have hfz54_0 := blk_frozen BK110.out 0
        go_wp2_with (first | ((with_reducible refine gate_callee (f := 16) rfl ?_); refine goesL_ (some 38) rfl rfl Try.func16 (by kernel_rfl) rfl #[.agg #[.slice Ao33 t115.length co33], .agg #[.slice Ao21 t106.length co21]] rfl (by (try simp only [List.map_toArray, List.map_cons, List.map_nil]); first | done | rfl | (simp only [List.length_drop, List.length_take]; rfl)) ?_; (with_reducible refine (laws_eqSeq.calls k _ _ t115 _ _ t106 false _ ?side1 ?side2 ?side3 ?side4 A38.out).mono ?_); (case side1 => refine (Kd.R_reads' (e := 61) (base := w.heap.size) (ok := fun k_ => (((True ∧ some k_ ≠ (.slice Ao18 t103.length co18 : Value).ownBlock) ∧ some k_ ≠ (.slice Ao21 t106.length co21 : Value).ownBlock) ∧ some k_ ≠ (.slice Ao27 t111.length co27 : Value).ownBlock)) (n := t115.length) (c := co33) ?_).2.2; exact (by (with_reducible repeat (first | apply Kd.R_alloc | apply Kd.R_drewN | apply Kd.R_drew)); exact (Kd.R_mono (Kd.R_far (p := ⟨gb119, 0, none⟩) (Kd.R_types HO117.out BK119.out (by decide)) (fun _ hk => hk.2) (.slice Ao33 t115.length co33)) (fun _ h_ => h_.1)))); (case side2 => exact (Kd.R_reads' HO117.out).2.1); (case side3 => refine (Kd.R_reads' (e := 61) (base := w.heap.size) (ok := fun k_ => (((True ∧ some k_ ≠ (.slice Ao18 t103.length co18 : Value).ownBlock) ∧ some k_ ≠ (.slice Ao27 t111.length co27 : Value).ownBlock) ∧ some k_ ≠ (.slice Ao33 t115.length co33 : Value).ownBlock)) (n := t106.length) (c := co21) ?_).2.2; exact (by (with_reducible repeat (first | apply Kd.R_alloc | apply Kd.R_drewN | apply Kd.R_drew)); exact (Kd.R_mono (Kd.R_far (p := ⟨gb119, 0, none⟩) (Kd.R_types HO108.out BK119.out (by decide)) (fun _ hk => hk.2) (.slice Ao33 t115.length co33)) (fun _ h_ => h_.1)))); (case side4 => exact (Kd.R_reads' HO108.out).2.1); rintro e w55 ⟨rfl, hb⟩; refine ⟨_, rfl, ?_⟩; have n0_ := mz (Kd.R_below (by (with_reducible repeat (first | apply Kd.R_alloc | apply Kd.R_drewN | apply Kd.R_drew)); exact (Kd.R_mono (Kd.R_far (p := ⟨gb119, 0, none⟩) (Kd.R_types HO105.out BK119.out (by decide)) (fun _ hk => hk.2) (.slice Ao33 t115.length co33)) (fun _ h_ => h_.1))) hb); have n1_ := mz (Kd.R_below (by (with_reducible repeat (first | apply Kd.R_alloc | apply Kd.R_drewN | apply Kd.R_drew)); exact (Kd.R_mono (Kd.R_far (p := ⟨gb119, 0, none⟩) (Kd.R_types HO108.out BK119.out (by decide)) (fun _ hk => hk.2) (.slice Ao33 t115.length co33)) (fun _ h_ => h_.1))) hb); have n2_ := mz (Kd.R_below (by (with_reducible repeat (first | apply Kd.R_alloc | apply Kd.R_drewN | apply Kd.R_drew)); exact (Kd.R_mono (Kd.R_far (p := ⟨gb119, 0, none⟩) (Kd.R_types HO113.out BK119.out (by decide)) (fun _ hk => hk.2) (.slice Ao33 t115.length co33)) (fun _ h_ => h_.1))) hb); have n3_ := mz (Kd.R_below (by (with_reducible repeat (first | apply Kd.R_alloc | apply Kd.R_drewN | apply Kd.R_drew)); exact (Kd.R_mono (Kd.R_far (p := ⟨gb119, 0, none⟩) (Kd.R_types HO117.out BK119.out (by decide)) (fun _ hk => hk.2) (.slice Ao33 t115.length co33)) (fun _ h_ => h_.1))) hb); have n4_ := mz (blk_below (g := gb101) (o := .cells #[.slice A0_0 l0_0.length c0_0] 24 (0, 0)) (by (with_reducible repeat (first | refine blk_drewN ?_ _ | refine blk_drew ?_ | refine blk_alloc ?_ _)); refine blk_far ?_ NB101_119.out _; (with_reducible repeat (first | refine blk_drewN ?_ _ | refine blk_drew ?_ | refine blk_alloc ?_ _)); exact BK101.out) hb); have n5_ := mz (blk_below (g := gb110) (o := .cells #[.slice Ao21 t106.length co21] 29 (0, 0)) (by (with_reducible repeat (first | refine blk_drewN ?_ _ | refine blk_drew ?_ | refine blk_alloc ?_ _)); refine blk_far ?_ NB110_119.out _; (with_reducible repeat (first | refine blk_drewN ?_ _ | refine blk_drew ?_ | refine blk_alloc ?_ _)); exact BK110.out) hb); have n6_ := mz (blk_below (g := gb114) (o := .cells #[.slice Ao27 t111.length co27] 29 (0, 0)) (by (with_reducible repeat (first | refine blk_drewN ?_ _ | refine blk_drew ?_ | refine blk_alloc ?_ _)); refine blk_far ?_ NB114_119.out _; (with_reducible repeat (first | refine blk_drewN ?_ _ | refine blk_drew ?_ | refine blk_alloc ?_ _)); exact BK114.out) hb); have n7_ := mz (blk_below (g := gb119) (o := .cells #[.slice Ao33 t115.length co33] 29 (0, 0)) (by (with_reducible repeat (first | refine blk_drewN ?_ _ | refine blk_drew ?_ | refine blk_alloc ?_ _)); refine blk_put (cs := #[.slice none 0 0]) ?_ 0 _ rfl; (with_reducible repeat (first | refine blk_drewN ?_ _ | refine blk_drew ?_ | refine blk_alloc ?_ _)); exact BK119.out) hb); have n8_ := mz (below_step (by repeat (first | (with_reducible first | exact HB.out | apply below_alloc | apply pw_below_drewN | apply below_drew1 | refine below_set ?_ GE101.out | refine below_set ?_ GE110.out | refine below_set ?_ GE114.out | refine below_set ?_ GE119.out) | exact HB.out)) hb); clear HO105; clear HO108; clear HO113; clear HO117; clear BK101; clear BK110; clear BK114; clear BK119; clear HB; have HO105 := n0_; have HO108 := n1_; have HO113 := n2_; have HO117 := n3_; have BK101 := n4_; have BK110 := n5_; have BK114 := n6_; have BK119 := n7_; have HB := n8_; clear n0_ n1_ n2_ n3_ n4_ n5_ n6_ n7_ n8_; (try clear hb); (try clear hb2); (try clear hk); (try clear hi)))
        go_meet
        case rel => exact ⟨_, (true), (by first | rfl | (simp; done) | (simp [*]; done)), H', ⟨by first | omega | exact Nat.le_refl _⟩, ⟨by (with_reducible repeat (first | apply Kd.R_alloc | apply Kd.R_drewN | apply Kd.R_drew)); exact Kd.R_mono HO108.out (fun _ hk => ⟨hk.1.2, hk.2⟩)⟩, ⟨by (with_reducible repeat (first | apply Kd.R_alloc | apply Kd.R_drewN | apply Kd.R_drew)); exact Kd.R_mono HO113.out (fun _ hk => ⟨hk.1.2, hk.2⟩)⟩, ⟨by (with_reducible repeat (first | apply Kd.R_alloc | apply Kd.R_drewN | apply Kd.R_drew)); exact Kd.R_mono HO117.out (fun _ hk => ⟨hk.1.2, hk.2⟩)⟩, ⟨by (with_reducible repeat (first | refine blk_drewN ?_ _ | refine blk_drew ?_ | refine blk_alloc ?_ _)); exact BK101.out⟩, ⟨by (with_reducible repeat (first | refine blk_drewN ?_ _ | refine blk_drew ?_ | refine blk_alloc ?_ _)); exact BK110.out⟩, ⟨by (with_reducible repeat (first | refine blk_drewN ?_ _ | refine blk_drew ?_ | refine blk_alloc ?_ _)); exact BK114.out⟩, ⟨by (with_reducible repeat (first | refine blk_drewN ?_ _ | refine blk_drew ?_ | refine blk_alloc ?_ _)); exact BK119.out⟩, ⟨by repeat (first | (with_reducible first | exact HB.out | apply below_alloc | apply pw_below_drewN | apply below_drew1 | refine below_set ?_ GE101.out | refine below_set ?_ GE110.out | refine below_set ?_ GE114.out | refine below_set ?_ GE119.out) | exact HB.out)⟩⟩
    case rest =>
      clear HC12
      try clear c1
      try clear c2
      try clear p2
      try clear c3
      try clear c4
      try clear c4b0
      try clear c5
      try clear c7
      try clear c12
      try clear c14
      try clear c16
      try clear c22
      try clear c27
      try clear c28
      try clear c29
      try clear c34
      try clear c35
      try clear c36
      try clear c39
      try clear c40
      try clear c41
      try clear c42
      try clear c44
      try clear c45
      try clear c48
      try clear c49
      try clear c50
      try clear c52
      try clear c53
      try clear hcz14_0
      try clear hcz16_0
      try clear hcz23_0
      try clear hcz24_0
      try clear hcz30_0
      try clear hcz37_0
      try clear hcz43_0
      try clear hcz46_0
      try clear hcz51_0
      try clear hcz54_0
      try clear hcz6_0
      try clear hfz14_0
      try clear hfz16_0
      try clear hfz23_0
      try clear hfz24_0
      try clear hfz30_0
      try clear hfz37_0
      try clear hfz43_0
      try clear hfz46_0
      try clear hfz51_0
      try clear hfz54_0
      try clear hfz6_0
      obtain ⟨kq, x44_11, rfl, HA, HJ11, HO_111000, HO_115000, HO_120000, BK101, BK110, BK114, BK119, HB⟩ := hcut
      cases kq with
      | zero => exact absurd HA.out (by simp [laws_FnExactDropAtom.j0])
      | succ kj11 =>
        have H := HA.out
        clear HA
        simp only [laws_FnExactDropAtom.j0] at H
        by_cases c56 : x44_11 = true
        · subst c56
          have H1 : (some false) = some r := by rw [if_pos rfl] at H; exact H
          clear H
          have H := H1
          clear H1
          obtain rfl := Option.some.inj H
          go_wp2
          go_ret
          exact ⟨by first | rfl | (simp [errW_none, errW_some] <;> rfl) | (simp [*, errW_none, errW_some] <;> rfl), by repeat (first | (with_reducible first | exact HB.out | apply below_alloc | apply pw_below_drewN | apply below_drew1 | refine below_set ?_ GE101.out | refine below_set ?_ GE110.out | refine below_set ?_ GE114.out | refine below_set ?_ GE119.out) | exact HB.out)⟩
        · replace c56 := Bool.eq_false_iff.mpr c56
          subst c56
          have H1 : ((laws_toSeq.f kj11 l0_0).bind fun t121 => ((laws_eqSeq.f kj11 t111 t121).bind fun t124 => (if t124 = true then ((laws_markSeq.f kj11 t111 1).bind fun bt125 => (if bt125.1 < 0 then (laws_FnExactDropAtom.j1 kj11 a1 t109 true l0_0 t106 t115) else ((laws_eqSeq.f kj11 t115 t106).bind fun t127 => (if t127 = true then (laws_FnExactDropAtom.j1 kj11 a1 t109 (t118 != t109) l0_0 t106 t115) else (laws_FnExactDropAtom.j1 kj11 a1 t109 true l0_0 t106 t115))))) else (some false)))) = some r := by rw [if_neg (show ¬ (false = true) by decide)] at H; exact H
          clear H
          have H := H1
          clear H1
          replace H := be0_ H
          obtain ⟨t121, A570, H⟩ := H
          replace H : ((laws_eqSeq.f kj11 t111 t121).bind fun t124 => (if t124 = true then ((laws_markSeq.f kj11 t111 1).bind fun bt125 => (if bt125.1 < 0 then (laws_FnExactDropAtom.j1 kj11 a1 t109 true l0_0 t106 t115) else ((laws_eqSeq.f kj11 t115 t106).bind fun t127 => (if t127 = true then (laws_FnExactDropAtom.j1 kj11 a1 t109 (t118 != t109) l0_0 t106 t115) else (laws_FnExactDropAtom.j1 kj11 a1 t109 true l0_0 t106 t115))))) else (some false))) = some r := H
          have A57 := mz A570
          clear A570
          replace H := be0_ H
          obtain ⟨t124, A580, H⟩ := H
          replace H : (if t124 = true then ((laws_markSeq.f kj11 t111 1).bind fun bt125 => (if bt125.1 < 0 then (laws_FnExactDropAtom.j1 kj11 a1 t109 true l0_0 t106 t115) else ((laws_eqSeq.f kj11 t115 t106).bind fun t127 => (if t127 = true then (laws_FnExactDropAtom.j1 kj11 a1 t109 (t118 != t109) l0_0 t106 t115) else (laws_FnExactDropAtom.j1 kj11 a1 t109 true l0_0 t106 t115))))) else (some false)) = some r := H
          have A58 := mz A580
          clear A580
          by_cases c59 : t124 = true
          · subst c59
            have H1 : ((laws_markSeq.f kj11 t111 1).bind fun bt125 => (if bt125.1 < 0 then (laws_FnExactDropAtom.j1 kj11 a1 t109 true l0_0 t106 t115) else ((laws_eqSeq.f kj11 t115 t106).bind fun t127 => (if t127 = true then (laws_FnExactDropAtom.j1 kj11 a1 t109 (t118 != t109) l0_0 t106 t115) else (laws_FnExactDropAtom.j1 kj11 a1 t109 true l0_0 t106 t115))))) = some r := by rw [if_pos rfl] at H; exact H
            clear H
            have H := H1
            clear H1
            replace H := be0_ H
            obtain ⟨⟨t125, t126⟩, A600, H⟩ := H
            replace H : (if t125 < 0 then (laws_FnExactDropAtom.j1 kj11 a1 t109 true l0_0 t106 t115) else ((laws_eqSeq.f kj11 t115 t106).bind fun t127 => (if t127 = true then (laws_FnExactDropAtom.j1 kj11 a1 t109 (t118 != t109) l0_0 t106 t115) else (laws_FnExactDropAtom.j1 kj11 a1 t109 true l0_0 t106 t115)))) = some r := H
            have A60 := mz A600
            clear A600
            have HC61 := mz H
            clear H
            try go_wp2
            have n0_ := mz (Kd.R_drew HO_111000.out)
            have n1_ := mz (Kd.R_drew HO_115000.out)
            have n2_ := mz (Kd.R_drew HO_120000.out)
            have n3_ := mz (blk_drew BK101.out)
            have n4_ := mz (blk_drew BK110.out)
            have n5_ := mz (blk_drew BK114.out)
            have n6_ := mz (blk_drew BK119.out)
            have n7_ := mz (below_drew1 HB.out)
            clear HO_111000
            clear HO_115000
            clear HO_120000
            clear BK101
            clear BK110
            clear BK114
            clear BK119
            clear HB
            have HO_111000 := n0_
            have HO_115000 := n1_
            have HO_120000 := n2_
            have BK101 := n3_
            have BK110 := n4_
            have BK114 := n5_
            have BK119 := n6_
            have HB := n7_
            clear n0_ n1_ n2_ n3_ n4_ n5_ n6_ n7_
            refine start_ (n := 5) (S := fun w' => w'.cell? ⟨gb114, 0, none⟩ = some (.slice Ao27 t111.length co27) ∧ w'.cell? ⟨gb101, 0, none⟩ = some (.slice A0_0 l0_0.length c0_0)) (ds := []) #[false, false, false, false, false] (by kernel_rfl) rfl rfl ⟨(blk_cell BK114.out 0).trans rfl, (blk_cell BK101.out 0).trans rfl⟩ (fun hHeld => ?_)
            generalize wc.drew = w62 at HO_111000 HO_115000 HO_120000 BK101 BK110 BK114 BK119 HB hHeld ⊢
            refine take_ (i := 0) (N := some 45) (v := ?_) (a' := ?_) #[true, false, false, false, false] rfl rfl (by kernel_rfl) (fun _ _ _ h => h) (Or.inl ⟨by rfl, ?_⟩) hHeld ?_ ?_
            rotate_left
            · rintro w' ⟨s0, s1⟩
              go_simp
              with_reducible rfl
            rotate_left
            · simp only [Act.put, List.setIfInBounds_toArray, List.set_cons_zero, List.set_cons_succ, i64_w, i32_w]
              rfl
            refine take_ (i := 1) (N := some 46) (v := ?_) (a' := ?_) #[true, true, false, false, false] rfl rfl (by kernel_rfl) (fun _ _ _ h => h) (Or.inl ⟨by rfl, ?_⟩) hHeld ?_ ?_
            rotate_left
            · rintro w' ⟨s0, s1⟩
              go_simp
              with_reducible rfl
            rotate_left
            · simp only [Act.put, List.setIfInBounds_toArray, List.set_cons_zero, List.set_cons_succ, i64_w, i32_w]
              rfl
            refine one_ (i := 2) (N := some 47) #[true, true, true, false, false] rfl rfl (by kernel_rfl) (by decide) (fun K hK => ?_)
            refine goes_ Try.func14 (by kernel_rfl) rfl #[.agg #[.slice A0_0 l0_0.length c0_0]] (by rfl) rfl rfl (by (try simp only [List.map_toArray, List.map_cons, List.map_nil]); first | done | rfl | (simp only [List.length_drop, List.length_take]; rfl)) ?_
            with_reducible refine (laws_toSeq.calls kj11 _ _ l0_0 t121 _ ?side1 ?side2 A57.out).mono ?_
            (case side1 => repeat (first | exact (Kd.C_below HR0_0.out HB.out) | (with_reducible refine Kd.C_alloc ?_ _) | (with_reducible refine Kd.C_drewN ?_ _) | (with_reducible refine Kd.C_drew ?_)))
            (case side2 => exact HC0_0.out)
            rintro e w63 ⟨v122, rfl, ho0, hb⟩
            refine ⟨_, rfl, ?_⟩
            have n0_ := mz (Kd.R_elder' (by (with_reducible repeat (first | apply Kd.R_alloc | apply Kd.R_drewN | apply Kd.R_drew)); exact HO_111000.out) (Kd.R_base ho0) hb)
            have n1_ := mz (Kd.R_elder' (by (with_reducible repeat (first | apply Kd.R_alloc | apply Kd.R_drewN | apply Kd.R_drew)); exact HO_115000.out) (Kd.R_base ho0) hb)
            have n2_ := mz (Kd.R_elder' (by (with_reducible repeat (first | apply Kd.R_alloc | apply Kd.R_drewN | apply Kd.R_drew)); exact HO_120000.out) (Kd.R_base ho0) hb)
            have n3_ := mz (Kd.R_lower (Kd.R_new' (Kd.R_new' (Kd.R_new' ho0 (Kd.R_lt (by (with_reducible repeat (first | apply Kd.R_alloc | apply Kd.R_drewN | apply Kd.R_drew)); exact HO_111000.out))) (Kd.R_lt (by (with_reducible repeat (first | apply Kd.R_alloc | apply Kd.R_drewN | apply Kd.R_drew)); exact HO_115000.out))) (Kd.R_lt (by (with_reducible repeat (first | apply Kd.R_alloc | apply Kd.R_drewN | apply Kd.R_drew)); exact HO_120000.out))) (below_size (by repeat (first | (with_reducible first | exact HB.out | apply below_alloc | apply pw_below_drewN | apply below_drew1 | refine below_set ?_ GE101.out | refine below_set ?_ GE110.out | refine below_set ?_ GE114.out | refine below_set ?_ GE119.out) | exact HB.out))))
            have n4_ := mz (blk_below (g := gb101) (o := .cells #[.slice A0_0 l0_0.length c0_0] 24 (0, 0)) (by (with_reducible repeat (first | refine blk_drewN ?_ _ | refine blk_drew ?_ | refine blk_alloc ?_ _)); exact BK101.out) hb)
            have n5_ := mz (blk_below (g := gb110) (o := .cells #[.slice Ao21 t106.length co21] 29 (0, 0)) (by (with_reducible repeat (first | refine blk_drewN ?_ _ | refine blk_drew ?_ | refine blk_alloc ?_ _)); exact BK110.out) hb)
            have n6_ := mz (blk_below (g := gb114) (o := .cells #[.slice Ao27 t111.length co27] 29 (0, 0)) (by (with_reducible repeat (first | refine blk_drewN ?_ _ | refine blk_drew ?_ | refine blk_alloc ?_ _)); exact BK114.out) hb)
            have n7_ := mz (blk_below (g := gb119) (o := .cells #[.slice Ao33 t115.length co33] 29 (0, 0)) (by (with_reducible repeat (first | refine blk_drewN ?_ _ | refine blk_drew ?_ | refine blk_alloc ?_ _)); exact BK119.out) hb)
            have n8_ := mz (below_step (by repeat (first | (with_reducible first | exact HB.out | apply below_alloc | apply pw_below_drewN | apply below_drew1 | refine below_set ?_ GE101.out | refine below_set ?_ GE110.out | refine below_set ?_ GE114.out | refine below_set ?_ GE119.out) | exact HB.out)) hb)
            clear HO_111000
            clear HO_115000
            clear HO_120000
            clear BK101
            clear BK110
            clear BK114
            clear BK119
            clear HB
            have HO_111000 := n0_
            have HO_115000 := n1_
            have HO_120000 := n2_
            have HO123 := n3_
            have BK101 := n4_
            have BK110 := n5_
            have BK114 := n6_
            have BK119 := n7_
            have HB := n8_
            clear n0_ n1_ n2_ n3_ n4_ n5_ n6_ n7_ n8_
            (try clear hb)
            (try clear hb2)
            (try clear hk)
            (try clear hi)
            (try clear ho0)
            obtain ⟨Ao64, co64, eo64⟩ := Kd.R_slice HO123.out
            (first | subst eo64 | (injection eo64 with f1_ f2_ f3_; have f4_ := f1_.symm; have f5_ := f3_.symm; clear f1_ f2_ f3_; subst f4_; subst f5_))
            refine hK.out _ _ ⟨(blk_cell BK114.out 0).trans rfl, (blk_cell BK101.out 0).trans rfl⟩ (fun hHeld => ?_)
            clear hK K
            refine norm_ (a' := ?_) ?_ ?_
            rotate_left
            · show Act.put _ (some 47) _ = _
              simp only [Act.put, List.setIfInBounds_toArray, List.set_cons_zero, List.set_cons_succ, i64_w, i32_w]
              rfl
            refine one_ (i := 3) (N := some 48) #[true, true, true, true, false] rfl rfl (by kernel_rfl) (by decide) (fun K hK => ?_)
            refine goes_ Try.func16 (by kernel_rfl) rfl #[.agg #[.slice Ao27 t111.length co27], .agg #[.slice Ao64 t121.length co64]] (by rfl) rfl rfl (by (try simp only [List.map_toArray, List.map_cons, List.map_nil]); first | done | rfl | (simp only [List.length_drop, List.length_take]; rfl)) ?_
            with_reducible refine (laws_eqSeq.calls kj11 _ _ t111 _ _ t121 true _ ?side1 ?side2 ?side3 ?side4 A58.out).mono ?_
            (case side1 => repeat (first | exact (Kd.R_reads' HO_115000.out).2.2 | (with_reducible refine Kd.C_alloc ?_ _) | (with_reducible refine Kd.C_drewN ?_ _) | (with_reducible refine Kd.C_drew ?_)))
            (case side2 => exact (Kd.R_reads' HO_115000.out).2.1)
            (case side3 => repeat (first | exact (Kd.R_reads' HO123.out).2.2 | (with_reducible refine Kd.C_alloc ?_ _) | (with_reducible refine Kd.C_drewN ?_ _) | (with_reducible refine Kd.C_drew ?_)))
            (case side4 => exact (Kd.R_reads' HO123.out).2.1)
            rintro e w65 ⟨rfl, hb⟩
            refine ⟨_, rfl, ?_⟩
            have n0_ := mz (Kd.R_below (by (with_reducible repeat (first | apply Kd.R_alloc | apply Kd.R_drewN | apply Kd.R_drew)); exact HO_111000.out) hb)
            have n1_ := mz (Kd.R_below (by (with_reducible repeat (first | apply Kd.R_alloc | apply Kd.R_drewN | apply Kd.R_drew)); exact HO_115000.out) hb)
            have n2_ := mz (Kd.R_below (by (with_reducible repeat (first | apply Kd.R_alloc | apply Kd.R_drewN | apply Kd.R_drew)); exact HO_120000.out) hb)
            have n3_ := mz (Kd.R_below (by (with_reducible repeat (first | apply Kd.R_alloc | apply Kd.R_drewN | apply Kd.R_drew)); exact HO123.out) hb)
            have n4_ := mz (blk_below (g := gb101) (o := .cells #[.slice A0_0 l0_0.length c0_0] 24 (0, 0)) (by (with_reducible repeat (first | refine blk_drewN ?_ _ | refine blk_drew ?_ | refine blk_alloc ?_ _)); exact BK101.out) hb)
            have n5_ := mz (blk_below (g := gb110) (o := .cells #[.slice Ao21 t106.length co21] 29 (0, 0)) (by (with_reducible repeat (first | refine blk_drewN ?_ _ | refine blk_drew ?_ | refine blk_alloc ?_ _)); exact BK110.out) hb)
            have n6_ := mz (blk_below (g := gb114) (o := .cells #[.slice Ao27 t111.length co27] 29 (0, 0)) (by (with_reducible repeat (first | refine blk_drewN ?_ _ | refine blk_drew ?_ | refine blk_alloc ?_ _)); exact BK114.out) hb)
            have n7_ := mz (blk_below (g := gb119) (o := .cells #[.slice Ao33 t115.length co33] 29 (0, 0)) (by (with_reducible repeat (first | refine blk_drewN ?_ _ | refine blk_drew ?_ | refine blk_alloc ?_ _)); exact BK119.out) hb)
            have n8_ := mz (below_step (by repeat (first | (with_reducible first | exact HB.out | apply below_alloc | apply pw_below_drewN | apply below_drew1 | refine below_set ?_ GE101.out | refine below_set ?_ GE110.out | refine below_set ?_ GE114.out | refine below_set ?_ GE119.out) | exact HB.out)) hb)
            clear HO_111000
            clear HO_115000
            clear HO_120000
            clear HO123
            clear BK101
            clear BK110
            clear BK114
            clear BK119
            clear HB
            have HO_111000 := n0_
            have HO_115000 := n1_
            have HO_120000 := n2_
            have HO123 := n3_
            have BK101 := n4_
            have BK110 := n5_
            have BK114 := n6_
            have BK119 := n7_
            have HB := n8_
            clear n0_ n1_ n2_ n3_ n4_ n5_ n6_ n7_ n8_
            (try clear hb)
            (try clear hb2)
            (try clear hk)
            (try clear hi)
            refine hK.out _ _ ⟨(blk_cell BK114.out 0).trans rfl, (blk_cell BK101.out 0).trans rfl⟩ (fun hHeld => ?_)
            clear hK K
            refine norm_ (a' := ?_) ?_ ?_
            rotate_left
            · show Act.put _ (some 48) _ = _
              simp only [Act.put, List.setIfInBounds_toArray, List.set_cons_zero, List.set_cons_succ, i64_w, i32_w]
              rfl
            refine pure_ (i := 4) (N := some 49) (v := ?_) (a' := ?_) #[true, true, true, true, true] rfl rfl (by kernel_rfl) (fun _ _ _ h => h) (Or.inl ⟨by rfl, ?_⟩) ?_ ?_
            rotate_left
            · intro w'
              go_simp
              with_reducible rfl
            rotate_left
            · simp only [Act.put, List.setIfInBounds_toArray, List.set_cons_zero, List.set_cons_succ, i64_w, i32_w]
              rfl
            refine done_ (by kernel_rfl) ?_
            have hnb66 := NB114_101.out
            have hnc66 := NB101_114.out
            have hnb67 := NB114_110.out
            have hnc67 := NB110_114.out
            have hnb68 := NB114_119.out
            have hnc68 := NB119_114.out
            have hcz69_0 : w65.cell? ⟨gb114, 0, none⟩ = some (.slice Ao27 t111.length co27) := (blk_cell BK114.out 0).trans rfl
            have hfz69_0 := blk_frozen BK114.out 0
            go_upto_region 14 with (first | ((with_reducible refine gate_callee (f := 24) rfl ?_); refine goesL_ (some 52) rfl rfl Try.func24 (by kernel_rfl) rfl #[.agg #[.slice Ao27 t111.length co27], .int .i64 1] rfl (by (try simp only [List.map_toArray, List.map_cons, List.map_nil]); first | done | rfl | (simp only [List.length_drop, List.length_take]; rfl)) ?_; (with_reducible refine (laws_markSeq.calls kj11 (fun k_ => some k_ = (.slice Ao27 t111.length co27 : Value).ownBlock) (.slice Ao27 t111.length co27) t111 1 t125 t126 w _ ?side1 ?side2 A60.out).mono ?_); (case side1 => repeat (first | (with_reducible first | exact HB.out | apply below_alloc | apply pw_below_drewN | apply below_drew1 | refine below_set ?_ GE101.out | refine below_set ?_ GE110.out | refine below_set ?_ GE114.out | refine below_set ?_ GE119.out) | exact HB.out)); (case side2 => exact Kd.R_tight rfl HO_115000.out); rintro e w70 ⟨rfl, hy0, hb, hkp⟩; refine ⟨_, rfl, ?_⟩; have n0_ := mz (Kd.R_mono (ok' := fun k_ => some k_ ≠ (.slice Ao27 t111.length co27 : Value).ownBlock ∧ some k_ ≠ (.slice Ao33 t115.length co33 : Value).ownBlock ∧ some k_ ≠ (.slice Ao64 t121.length co64 : Value).ownBlock) (Kd.R_keptB (HO_111000.out) hkp (fun k_ hk_ hs_ => (hk_.1.1) hs_)) (fun k_ hk_ => ⟨hk_.1.1.1, hk_.1.1.2, hk_.1.2⟩)); have n1_ := mz (Kd.R_reok rfl hy0 (fun k_ e_ => HO_115000.out.1 k_ e_)); have n2_ := mz (Kd.R_mono (ok' := fun k_ => some k_ ≠ (.slice Ao21 t106.length co21 : Value).ownBlock ∧ some k_ ≠ (.slice Ao27 t111.length co27 : Value).ownBlock ∧ some k_ ≠ (.slice Ao64 t121.length co64 : Value).ownBlock) (Kd.R_keptB (HO_120000.out) hkp (fun k_ hk_ hs_ => (hk_.1.2) hs_)) (fun k_ hk_ => ⟨hk_.1.1.1, hk_.1.1.2, hk_.1.2⟩)); have n3_ := mz (blk_kept (by (with_reducible repeat (first | refine blk_drewN ?_ _ | refine blk_drew ?_ | refine blk_alloc ?_ _)); exact BK101.out) hkp (fun hs_ => (fun e_ => (Kd.R_ne HO_115000.out BK101.out (by decide)) e_) hs_)); have n4_ := mz (blk_kept (by (with_reducible repeat (first | refine blk_drewN ?_ _ | refine blk_drew ?_ | refine blk_alloc ?_ _)); exact BK110.out) hkp (fun hs_ => (fun e_ => (Kd.R_ne HO_115000.out BK110.out (by decide)) e_) hs_)); have n5_ := mz (blk_kept (by (with_reducible repeat (first | refine blk_drewN ?_ _ | refine blk_drew ?_ | refine blk_alloc ?_ _)); exact BK114.out) hkp (fun hs_ => (fun e_ => (Kd.R_ne HO_115000.out BK114.out (by decide)) e_) hs_)); have n6_ := mz (blk_kept (by (with_reducible repeat (first | refine blk_drewN ?_ _ | refine blk_drew ?_ | refine blk_alloc ?_ _)); exact BK119.out) hkp (fun hs_ => (fun e_ => (Kd.R_ne HO_115000.out BK119.out (by decide)) e_) hs_)); have n7_ := mz (Kd.R_mono (ok' := fun k_ => some k_ ≠ (.slice Ao21 t106.length co21 : Value).ownBlock ∧ some k_ ≠ (.slice Ao27 t111.length co27 : Value).ownBlock ∧ some k_ ≠ (.slice Ao33 t115.length co33 : Value).ownBlock) (Kd.R_keptB (HO123.out) hkp (fun k_ hk_ hs_ => (hk_.1.2) hs_)) (fun k_ hk_ => ⟨hk_.1.1.1.2, hk_.1.1.2, hk_.1.2⟩)); have n8_ := mz (hb); clear HO_111000; clear HO_115000; clear HO_120000; clear BK101; clear BK110; clear BK114; clear BK119; clear HO123; clear HB; have HO_111000 := n0_; have HO_115000 := n1_; have HO_120000 := n2_; have BK101 := n3_; have BK110 := n4_; have BK114 := n5_; have BK119 := n6_; have HO123 := n7_; have HB := n8_; clear n0_ n1_ n2_ n3_ n4_ n5_ n6_ n7_ n8_; (try clear hb); (try clear hkp); (try clear hy0)))
            (try simp only [Act.put, List.setIfInBounds_toArray, List.set_cons_zero, List.set_cons_succ])
            go_cut [65] (fun v65 wc => ∃ (kq : Nat) (x65_60 : Bool), v65 = .bool x65_60 ∧ Aside0 (laws_FnExactDropAtom.j1 kq a1 t109 x65_60 l0_0 t106 t115 = some r) ∧ Aside0 (kq ≤ kj11) ∧ Aside0 (Kd.R k61 61 wc w.heap.size (fun k_ => some k_ ≠ ((.slice Ao27 t111.length co27) : Value).ownBlock ∧ some k_ ≠ ((.slice Ao33 t115.length co33) : Value).ownBlock) (.slice Ao21 t106.length co21) t106) ∧ Aside0 (Kd.R k61 61 wc w.heap.size (fun k_ => some k_ ≠ ((.slice Ao21 t106.length co21) : Value).ownBlock ∧ some k_ ≠ ((.slice Ao33 t115.length co33) : Value).ownBlock) (.slice Ao27 t111.length co27) t126) ∧ Aside0 (Kd.R k61 61 wc w.heap.size (fun k_ => some k_ ≠ ((.slice Ao21 t106.length co21) : Value).ownBlock ∧ some k_ ≠ ((.slice Ao27 t111.length co27) : Value).ownBlock) (.slice Ao33 t115.length co33) t115) ∧ Aside0 (wc.heap[gb101]? = some (.cells #[(.slice A0_0 l0_0.length c0_0)] 24 (0, 0))) ∧ Aside0 (wc.heap[gb110]? = some (.cells #[(.slice Ao21 t106.length co21)] 29 (0, 0))) ∧ Aside0 (wc.heap[gb114]? = some (.cells #[(.slice Ao27 t111.length co27)] 29 (0, 0))) ∧ Aside0 (wc.heap[gb119]? = some (.cells #[(.slice Ao33 t115.length co33)] 29 (0, 0))) ∧ Aside0 (Below w.heap.size w wc))
            case first =>
              have H := HC61.out
              clear HC61
              by_cases c71 : t125 < 0
              · rw [if_pos c71] at H
                have c71b0 : decide (t125 < 0) = true := decide_eq_true c71
                clear c71
                (first | rw [c71b0] | (simp only [i64_w, i32_w]; rw [c71b0]) | skip)
                have H' := mz H
                clear H
                go_wp2
                go_meet
                case rel => exact ⟨_, (true), (by first | rfl | (simp; done) | (simp [*]; done)), H', ⟨by have := HJ11.out; first | omega | exact Nat.le_refl _⟩, ⟨by (with_reducible repeat (first | apply Kd.R_alloc | apply Kd.R_drewN | apply Kd.R_drew)); exact Kd.R_mono HO_111000.out (fun _ hk => ⟨hk.1, hk.2.1⟩)⟩, ⟨by (with_reducible repeat (first | apply Kd.R_alloc | apply Kd.R_drewN | apply Kd.R_drew)); exact Kd.R_mono HO_115000.out (fun _ hk => ⟨hk.1.1, hk.1.2⟩)⟩, ⟨by (with_reducible repeat (first | apply Kd.R_alloc | apply Kd.R_drewN | apply Kd.R_drew)); exact Kd.R_mono HO_120000.out (fun _ hk => ⟨hk.1, hk.2.1⟩)⟩, ⟨by (with_reducible repeat (first | refine blk_drewN ?_ _ | refine blk_drew ?_ | refine blk_alloc ?_ _)); exact BK101.out⟩, ⟨by (with_reducible repeat (first | refine blk_drewN ?_ _ | refine blk_drew ?_ | refine blk_alloc ?_ _)); exact BK110.out⟩, ⟨by (with_reducible repeat (first | refine blk_drewN ?_ _ | refine blk_drew ?_ | refine blk_alloc ?_ _)); exact BK114.out⟩, ⟨by (with_reducible repeat (first | refine blk_drewN ?_ _ | refine blk_drew ?_ | refine blk_alloc ?_ _)); exact BK119.out⟩, ⟨by repeat (first | (with_reducible first | exact HB.out | apply below_alloc | apply pw_below_drewN | apply below_drew1 | refine below_set ?_ GE101.out | refine below_set ?_ GE110.out | refine below_set ?_ GE114.out | refine below_set ?_ GE119.out) | exact HB.out)⟩⟩
              · rw [if_neg c71] at H
                have c71b0 : decide (t125 < 0) = false := decide_eq_false c71
                clear c71
                (first | rw [c71b0] | (simp only [i64_w, i32_w]; rw [c71b0]) | skip)
                replace H := be0_ H
                obtain ⟨t127, A720, H⟩ := H
                replace H : (if t127 = true then (laws_FnExactDropAtom.j1 kj11 a1 t109 (t118 != t109) l0_0 t106 t115) else (laws_FnExactDropAtom.j1 kj11 a1 t109 true l0_0 t106 t115)) = some r := H
                have A72 := mz A720
                clear A720
                by_cases c73 : t127 = true
                · subst c73
                  have H1 : (laws_FnExactDropAtom.j1 kj11 a1 t109 (t118 != t109) l0_0 t106 t115) = some r := by rw [if_pos rfl] at H; exact H
                  clear H
                  have H := H1
                  clear H1
                  have H' := mz H
                  clear H
                  have hnb74 := NB119_101.out
                  have hnc74 := NB101_119.out
                  have hnb75 := NB119_110.out
                  have hnc75 := NB110_119.out
                  have hnb76 := NB119_114.out
                  have hnc76 := NB114_119.out
                  have hcz77_0 : w70.cell? ⟨gb119, 0, none⟩ = some (.slice Ao33 t115.length co33) := (blk_cell BK119.out 0).trans rfl
                  have hfz77_0 := blk_frozen BK119.out 0
                  have hnb78 := NB110_101.out
                  have hnc78 := NB101_110.out
                  have hnb79 := NB110_114.out
                  have hnc79 := NB114_110.out
                  have hcz80_0 : w70.cell? ⟨gb110, 0, none⟩ = some (.slice Ao21 t106.length co21) := (blk_cell BK110.out 0).trans rfl
                  have hfz80_0 := blk_frozen BK110.out 0
                  go_wp2_with (first | (go_at_call 16; (with_reducible refine (laws_eqSeq.calls kj11 _ _ t115 _ _ t106 true _ ?side1 ?side2 ?side3 ?side4 A72.out).mono ?_); (case side1 => repeat (first | exact (Kd.R_reads' HO_120000.out).2.2 | (with_reducible refine Kd.C_alloc ?_ _) | (with_reducible refine Kd.C_drewN ?_ _) | (with_reducible refine Kd.C_drew ?_))); (case side2 => exact (Kd.R_reads' HO_120000.out).2.1); (case side3 => repeat (first | exact (Kd.R_reads' HO_111000.out).2.2 | (with_reducible refine Kd.C_alloc ?_ _) | (with_reducible refine Kd.C_drewN ?_ _) | (with_reducible refine Kd.C_drew ?_))); (case side4 => exact (Kd.R_reads' HO_111000.out).2.1); rintro e w81 ⟨rfl, hb⟩; have n0_ := mz (Kd.R_below (by (with_reducible repeat (first | apply Kd.R_alloc | apply Kd.R_drewN | apply Kd.R_drew)); exact HO_111000.out) hb); have n1_ := mz (Kd.R_below (by (with_reducible repeat (first | apply Kd.R_alloc | apply Kd.R_drewN | apply Kd.R_drew)); exact HO_115000.out) hb); have n2_ := mz (Kd.R_below (by (with_reducible repeat (first | apply Kd.R_alloc | apply Kd.R_drewN | apply Kd.R_drew)); exact HO_120000.out) hb); have n3_ := mz (Kd.R_below (by (with_reducible repeat (first | apply Kd.R_alloc | apply Kd.R_drewN | apply Kd.R_drew)); exact HO123.out) hb); have n4_ := mz (blk_below (g := gb101) (o := .cells #[.slice A0_0 l0_0.length c0_0] 24 (0, 0)) (by (with_reducible repeat (first | refine blk_drewN ?_ _ | refine blk_drew ?_ | refine blk_alloc ?_ _)); exact BK101.out) hb); have n5_ := mz (blk_below (g := gb110) (o := .cells #[.slice Ao21 t106.length co21] 29 (0, 0)) (by (with_reducible repeat (first | refine blk_drewN ?_ _ | refine blk_drew ?_ | refine blk_alloc ?_ _)); exact BK110.out) hb); have n6_ := mz (blk_below (g := gb114) (o := .cells #[.slice Ao27 t111.length co27] 29 (0, 0)) (by (with_reducible repeat (first | refine blk_drewN ?_ _ | refine blk_drew ?_ | refine blk_alloc ?_ _)); exact BK114.out) hb); have n7_ := mz (blk_below (g := gb119) (o := .cells #[.slice Ao33 t115.length co33] 29 (0, 0)) (by (with_reducible repeat (first | refine blk_drewN ?_ _ | refine blk_drew ?_ | refine blk_alloc ?_ _)); exact BK119.out) hb); have n8_ := mz (below_step (by repeat (first | (with_reducible first | exact HB.out | apply below_alloc | apply pw_below_drewN | apply below_drew1 | refine below_set ?_ GE101.out | refine below_set ?_ GE110.out | refine below_set ?_ GE114.out | refine below_set ?_ GE119.out) | exact HB.out)) hb); clear HO_111000; clear HO_115000; clear HO_120000; clear HO123; clear BK101; clear BK110; clear BK114; clear BK119; clear HB; have HO_111000 := n0_; have HO_115000 := n1_; have HO_120000 := n2_; have HO123 := n3_; have BK101 := n4_; have BK110 := n5_; have BK114 := n6_; have BK119 := n7_; have HB := n8_; clear n0_ n1_ n2_ n3_ n4_ n5_ n6_ n7_ n8_; (try clear hb); (try clear hb2); (try clear hk); (try clear hi)))
                  go_meet
                  case rel => exact ⟨_, ((t118 != t109)), (by first | rfl | (simp; done) | (simp [*]; done)), H', ⟨by have := HJ11.out; first | omega | exact Nat.le_refl _⟩, ⟨by (with_reducible repeat (first | apply Kd.R_alloc | apply Kd.R_drewN | apply Kd.R_drew)); exact Kd.R_mono HO_111000.out (fun _ hk => ⟨hk.1, hk.2.1⟩)⟩, ⟨by (with_reducible repeat (first | apply Kd.R_alloc | apply Kd.R_drewN | apply Kd.R_drew)); exact Kd.R_mono HO_115000.out (fun _ hk => ⟨hk.1.1, hk.1.2⟩)⟩, ⟨by (with_reducible repeat (first | apply Kd.R_alloc | apply Kd.R_drewN | apply Kd.R_drew)); exact Kd.R_mono HO_120000.out (fun _ hk => ⟨hk.1, hk.2.1⟩)⟩, ⟨by (with_reducible repeat (first | refine blk_drewN ?_ _ | refine blk_drew ?_ | refine blk_alloc ?_ _)); exact BK101.out⟩, ⟨by (with_reducible repeat (first | refine blk_drewN ?_ _ | refine blk_drew ?_ | refine blk_alloc ?_ _)); exact BK110.out⟩, ⟨by (with_reducible repeat (first | refine blk_drewN ?_ _ | refine blk_drew ?_ | refine blk_alloc ?_ _)); exact BK114.out⟩, ⟨by (with_reducible repeat (first | refine blk_drewN ?_ _ | refine blk_drew ?_ | refine blk_alloc ?_ _)); exact BK119.out⟩, ⟨by repeat (first | (with_reducible first | exact HB.out | apply below_alloc | apply pw_below_drewN | apply below_drew1 | refine below_set ?_ GE101.out | refine below_set ?_ GE110.out | refine below_set ?_ GE114.out | refine below_set ?_ GE119.out) | exact HB.out)⟩⟩
                · replace c73 := Bool.eq_false_iff.mpr c73
                  subst c73
                  have H1 : (laws_FnExactDropAtom.j1 kj11 a1 t109 true l0_0 t106 t115) = some r := by rw [if_neg (show ¬ (false = true) by decide)] at H; exact H
                  clear H
                  have H := H1
                  clear H1
                  have H' := mz H
                  clear H
                  have hnb82 := NB119_101.out
                  have hnc82 := NB101_119.out
                  have hnb83 := NB119_110.out
                  have hnc83 := NB110_119.out
                  have hnb84 := NB119_114.out
                  have hnc84 := NB114_119.out
                  have hcz85_0 : w70.cell? ⟨gb119, 0, none⟩ = some (.slice Ao33 t115.length co33) := (blk_cell BK119.out 0).trans rfl
                  have hfz85_0 := blk_frozen BK119.out 0
                  have hnb86 := NB110_101.out
                  have hnc86 := NB101_110.out
                  have hnb87 := NB110_114.out
                  have hnc87 := NB114_110.out
                  have hcz88_0 : w70.cell? ⟨gb110, 0, none⟩ = some (.slice Ao21 t106.length co21) := (blk_cell BK110.out 0).trans rfl
                  have hfz88_0 := blk_frozen BK110.out 0
                  go_wp2_with (first | (go_at_call 16; (with_reducible refine (laws_eqSeq.calls kj11 _ _ t115 _ _ t106 false _ ?side1 ?side2 ?side3 ?side4 A72.out).mono ?_); (case side1 => repeat (first | exact (Kd.R_reads' HO_120000.out).2.2 | (with_reducible refine Kd.C_alloc ?_ _) | (with_reducible refine Kd.C_drewN ?_ _) | (with_reducible refine Kd.C_drew ?_))); (case side2 => exact (Kd.R_reads' HO_120000.out).2.1); (case side3 => repeat (first | exact (Kd.R_reads' HO_111000.out).2.2 | (with_reducible refine Kd.C_alloc ?_ _) | (with_reducible refine Kd.C_drewN ?_ _) | (with_reducible refine Kd.C_drew ?_))); (case side4 => exact (Kd.R_reads' HO_111000.out).2.1); rintro e w89 ⟨rfl, hb⟩; have n0_ := mz (Kd.R_below (by (with_reducible repeat (first | apply Kd.R_alloc | apply Kd.R_drewN | apply Kd.R_drew)); exact HO_111000.out) hb); have n1_ := mz (Kd.R_below (by (with_reducible repeat (first | apply Kd.R_alloc | apply Kd.R_drewN | apply Kd.R_drew)); exact HO_115000.out) hb); have n2_ := mz (Kd.R_below (by (with_reducible repeat (first | apply Kd.R_alloc | apply Kd.R_drewN | apply Kd.R_drew)); exact HO_120000.out) hb); have n3_ := mz (Kd.R_below (by (with_reducible repeat (first | apply Kd.R_alloc | apply Kd.R_drewN | apply Kd.R_drew)); exact HO123.out) hb); have n4_ := mz (blk_below (g := gb101) (o := .cells #[.slice A0_0 l0_0.length c0_0] 24 (0, 0)) (by (with_reducible repeat (first | refine blk_drewN ?_ _ | refine blk_drew ?_ | refine blk_alloc ?_ _)); exact BK101.out) hb); have n5_ := mz (blk_below (g := gb110) (o := .cells #[.slice Ao21 t106.length co21] 29 (0, 0)) (by (with_reducible repeat (first | refine blk_drewN ?_ _ | refine blk_drew ?_ | refine blk_alloc ?_ _)); exact BK110.out) hb); have n6_ := mz (blk_below (g := gb114) (o := .cells #[.slice Ao27 t111.length co27] 29 (0, 0)) (by (with_reducible repeat (first | refine blk_drewN ?_ _ | refine blk_drew ?_ | refine blk_alloc ?_ _)); exact BK114.out) hb); have n7_ := mz (blk_below (g := gb119) (o := .cells #[.slice Ao33 t115.length co33] 29 (0, 0)) (by (with_reducible repeat (first | refine blk_drewN ?_ _ | refine blk_drew ?_ | refine blk_alloc ?_ _)); exact BK119.out) hb); have n8_ := mz (below_step (by repeat (first | (with_reducible first | exact HB.out | apply below_alloc | apply pw_below_drewN | apply below_drew1 | refine below_set ?_ GE101.out | refine below_set ?_ GE110.out | refine below_set ?_ GE114.out | refine below_set ?_ GE119.out) | exact HB.out)) hb); clear HO_111000; clear HO_115000; clear HO_120000; clear HO123; clear BK101; clear BK110; clear BK114; clear BK119; clear HB; have HO_111000 := n0_; have HO_115000 := n1_; have HO_120000 := n2_; have HO123 := n3_; have BK101 := n4_; have BK110 := n5_; have BK114 := n6_; have BK119 := n7_; have HB := n8_; clear n0_ n1_ n2_ n3_ n4_ n5_ n6_ n7_ n8_; (try clear hb); (try clear hb2); (try clear hk); (try clear hi)))
                  go_meet
                  case rel => exact ⟨_, (true), (by first | rfl | (simp; done) | (simp [*]; done)), H', ⟨by have := HJ11.out; first | omega | exact Nat.le_refl _⟩, ⟨by (with_reducible repeat (first | apply Kd.R_alloc | apply Kd.R_drewN | apply Kd.R_drew)); exact Kd.R_mono HO_111000.out (fun _ hk => ⟨hk.1, hk.2.1⟩)⟩, ⟨by (with_reducible repeat (first | apply Kd.R_alloc | apply Kd.R_drewN | apply Kd.R_drew)); exact Kd.R_mono HO_115000.out (fun _ hk => ⟨hk.1.1, hk.1.2⟩)⟩, ⟨by (with_reducible repeat (first | apply Kd.R_alloc | apply Kd.R_drewN | apply Kd.R_drew)); exact Kd.R_mono HO_120000.out (fun _ hk => ⟨hk.1, hk.2.1⟩)⟩, ⟨by (with_reducible repeat (first | refine blk_drewN ?_ _ | refine blk_drew ?_ | refine blk_alloc ?_ _)); exact BK101.out⟩, ⟨by (with_reducible repeat (first | refine blk_drewN ?_ _ | refine blk_drew ?_ | refine blk_alloc ?_ _)); exact BK110.out⟩, ⟨by (with_reducible repeat (first | refine blk_drewN ?_ _ | refine blk_drew ?_ | refine blk_alloc ?_ _)); exact BK114.out⟩, ⟨by (with_reducible repeat (first | refine blk_drewN ?_ _ | refine blk_drew ?_ | refine blk_alloc ?_ _)); exact BK119.out⟩, ⟨by repeat (first | (with_reducible first | exact HB.out | apply below_alloc | apply pw_below_drewN | apply below_drew1 | refine below_set ?_ GE101.out | refine below_set ?_ GE110.out | refine below_set ?_ GE114.out | refine below_set ?_ GE119.out) | exact HB.out)⟩⟩
            case rest =>
              clear HC61
              try clear c1
              try clear c2
              try clear p2
              try clear c3
              try clear c4
              try clear c4b0
              try clear c5
              try clear c6
              try clear c7
              try clear c8
              try clear c12
              try clear c14
              try clear c16
              try clear c22
              try clear c24
              try clear c27
              try clear c28
              try clear c29
              try clear c34
              try clear c35
              try clear c36
              try clear c39
              try clear c40
              try clear c41
              try clear c42
              try clear c44
              try clear c45
              try clear c48
              try clear c49
              try clear c50
              try clear c52
              try clear c53
              try clear c56
              try clear c59
              try clear c66
              try clear c67
              try clear c68
              try clear c71
              try clear c71b0
              try clear c73
              try clear c74
              try clear c75
              try clear c76
              try clear c78
              try clear c79
              try clear c82
              try clear c83
              try clear c84
              try clear c86
              try clear c87
              try clear hcz14_0
              try clear hcz16_0
              try clear hcz23_0
              try clear hcz24_0
              try clear hcz30_0
              try clear hcz37_0
              try clear hcz43_0
              try clear hcz46_0
              try clear hcz51_0
              try clear hcz54_0
              try clear hcz69_0
              try clear hcz6_0
              try clear hcz77_0
              try clear hcz80_0
              try clear hcz85_0
              try clear hcz88_0
              try clear hfz14_0
              try clear hfz16_0
              try clear hfz23_0
              try clear hfz24_0
              try clear hfz30_0
              try clear hfz37_0
              try clear hfz43_0
              try clear hfz46_0
              try clear hfz51_0
              try clear hfz54_0
              try clear hfz69_0
              try clear hfz6_0
              try clear hfz77_0
              try clear hfz80_0
              try clear hfz85_0
              try clear hfz88_0
              try clear p2
              obtain ⟨kq, x65_60, rfl, HA, HJ60, HO_111000, HO_115000, HO_120000, BK101, BK110, BK114, BK119, HB⟩ := hcut
              have hl115000_60 := (Kd.R_reads' HO_115000.out).1
              rw [hl115000_60] at HO_115000
              (try simp only [hl115000_60])
              (try simp only [hl115000_60] at BK101)
              (try simp only [hl115000_60] at BK110)
              (try simp only [hl115000_60] at BK114)
              (try simp only [hl115000_60] at BK119)
              (try simp only [hl115000_60] at HO_111000)
              (try simp only [hl115000_60] at HO_120000)
              cases kq with
              | zero => exact absurd HA.out (by simp [laws_FnExactDropAtom.j1])
              | succ kj60 =>
                have H := HA.out
                clear HA
                simp only [laws_FnExactDropAtom.j1] at H
                by_cases c90 : x65_60 = true
                · subst c90
                  have H1 : (some false) = some r := by rw [if_pos rfl] at H; exact H
                  clear H
                  have H := H1
                  clear H1
                  obtain rfl := Option.some.inj H
                  go_wp2
                  go_ret
                  exact ⟨by first | rfl | (simp [errW_none, errW_some] <;> rfl) | (simp [*, errW_none, errW_some] <;> rfl), by repeat (first | (with_reducible first | exact HB.out | apply below_alloc | apply pw_below_drewN | apply below_drew1 | refine below_set ?_ GE101.out | refine below_set ?_ GE110.out | refine below_set ?_ GE114.out | refine below_set ?_ GE119.out) | exact HB.out)⟩
                · replace c90 := Bool.eq_false_iff.mpr c90
                  subst c90
                  have H1 : ((laws_markSeq.f kj60 t115 1).bind fun bt128 => ((laws_heldSeq.f kj60 bt128.2 1).bind fun t130 => (if t130 < 0 then (some false) else (if t130 = bt128.1 then ((laws_toSeq.f kj60 l0_0).bind fun t131 => ((impl_DropAtom.f t131 a1).bind fun bt134 => ((laws_eqSeq.f kj60 bt134.1 t106).bind fun t139 => (if t139 = true then (laws_FnExactDropAtom.j2 kj60 bt128.1 (bt134.2 != t109) bt128.2) else (laws_FnExactDropAtom.j2 kj60 bt128.1 true bt128.2))))) else (some false))))) = some r := by rw [if_neg (show ¬ (false = true) by decide)] at H; exact H
                  clear H
                  have H := H1
                  clear H1
                  replace H := be0_ H
                  obtain ⟨⟨t128, t129⟩, A910, H⟩ := H
                  replace H : ((laws_heldSeq.f kj60 t129 1).bind fun t130 => (if t130 < 0 then (some false) else (if t130 = t128 then ((laws_toSeq.f kj60 l0_0).bind fun t131 => ((impl_DropAtom.f t131 a1).bind fun bt134 => ((laws_eqSeq.f kj60 bt134.1 t106).bind fun t139 => (if t139 = true then (laws_FnExactDropAtom.j2 kj60 t128 (bt134.2 != t109) t129) else (laws_FnExactDropAtom.j2 kj60 t128 true t129))))) else (some false)))) = some r := H
                  have A91 := mz A910
                  clear A910
                  replace H := be0_ H
                  obtain ⟨t130, A920, H⟩ := H
                  replace H : (if t130 < 0 then (some false) else (if t130 = t128 then ((laws_toSeq.f kj60 l0_0).bind fun t131 => ((impl_DropAtom.f t131 a1).bind fun bt134 => ((laws_eqSeq.f kj60 bt134.1 t106).bind fun t139 => (if t139 = true then (laws_FnExactDropAtom.j2 kj60 t128 (bt134.2 != t109) t129) else (laws_FnExactDropAtom.j2 kj60 t128 true t129))))) else (some false))) = some r := H
                  have A92 := mz A920
                  clear A920
                  by_cases c93 : t130 < 0
                  · rw [if_pos c93] at H
                    have c93b0 : decide (t130 < 0) = true := decide_eq_true c93
                    clear c93
                    obtain rfl := Option.some.inj H
                    have hnb94 := NB119_101.out
                    have hnc94 := NB101_119.out
                    have hnb95 := NB119_110.out
                    have hnc95 := NB110_119.out
                    have hnb96 := NB119_114.out
                    have hnc96 := NB114_119.out
                    have hcz97_0 : wc.cell? ⟨gb119, 0, none⟩ = some (.slice Ao33 t115.length co33) := (blk_cell BK119.out 0).trans rfl
                    have hfz97_0 := blk_frozen BK119.out 0
                    go_wp2_with (first | ((with_reducible refine gate_callee (f := 24) rfl ?_); refine goesL_ (some 68) rfl rfl Try.func24 (by kernel_rfl) rfl #[.agg #[.slice Ao33 t115.length co33], .int .i64 1] rfl (by (try simp only [List.map_toArray, List.map_cons, List.map_nil]); first | done | rfl | (simp only [List.length_drop, List.length_take]; rfl)) ?_; (with_reducible refine (laws_markSeq.calls kj60 (fun k_ => some k_ = (.slice Ao33 t115.length co33 : Value).ownBlock) (.slice Ao33 t115.length co33) t115 1 t128 t129 w _ ?side1 ?side2 A91.out).mono ?_); (case side1 => repeat (first | (with_reducible first | exact HB.out | apply below_alloc | apply pw_below_drewN | apply below_drew1 | refine below_set ?_ GE101.out | refine below_set ?_ GE110.out | refine below_set ?_ GE114.out | refine below_set ?_ GE119.out) | exact HB.out)); (case side2 => exact Kd.R_tight rfl HO_120000.out); rintro e w98 ⟨rfl, hy0, hb, hkp⟩; refine ⟨_, rfl, ?_⟩; have n0_ := mz (Kd.R_mono (ok' := fun k_ => some k_ ≠ (.slice Ao27 t126.length co27 : Value).ownBlock ∧ some k_ ≠ (.slice Ao33 t115.length co33 : Value).ownBlock) (Kd.R_keptB (HO_111000.out) hkp (fun k_ hk_ hs_ => (hk_.2) hs_)) (fun k_ hk_ => ⟨hk_.1.1, hk_.1.2⟩)); have n1_ := mz (Kd.R_mono (ok' := fun k_ => some k_ ≠ (.slice Ao21 t106.length co21 : Value).ownBlock ∧ some k_ ≠ (.slice Ao33 t115.length co33 : Value).ownBlock) (Kd.R_keptB (HO_115000.out) hkp (fun k_ hk_ hs_ => (hk_.2) hs_)) (fun k_ hk_ => ⟨hk_.1.1, hk_.1.2⟩)); have n2_ := mz (Kd.R_reok rfl hy0 (fun k_ e_ => HO_120000.out.1 k_ e_)); have n3_ := mz (blk_kept (by (with_reducible repeat (first | refine blk_drewN ?_ _ | refine blk_drew ?_ | refine blk_alloc ?_ _)); exact BK101.out) hkp (fun hs_ => (fun e_ => (Kd.R_ne HO_120000.out BK101.out (by decide)) e_) hs_)); have n4_ := mz (blk_kept (by (with_reducible repeat (first | refine blk_drewN ?_ _ | refine blk_drew ?_ | refine blk_alloc ?_ _)); exact BK110.out) hkp (fun hs_ => (fun e_ => (Kd.R_ne HO_120000.out BK110.out (by decide)) e_) hs_)); have n5_ := mz (blk_kept (by (with_reducible repeat (first | refine blk_drewN ?_ _ | refine blk_drew ?_ | refine blk_alloc ?_ _)); exact BK114.out) hkp (fun hs_ => (fun e_ => (Kd.R_ne HO_120000.out BK114.out (by decide)) e_) hs_)); have n6_ := mz (blk_kept (by (with_reducible repeat (first | refine blk_drewN ?_ _ | refine blk_drew ?_ | refine blk_alloc ?_ _)); exact BK119.out) hkp (fun hs_ => (fun e_ => (Kd.R_ne HO_120000.out BK119.out (by decide)) e_) hs_)); have n7_ := mz (hb); clear HO_111000; clear HO_115000; clear HO_120000; clear BK101; clear BK110; clear BK114; clear BK119; clear HB; have HO_111000 := n0_; have HO_115000 := n1_; have HO_120000 := n2_; have BK101 := n3_; have BK110 := n4_; have BK114 := n5_; have BK119 := n6_; have HB := n7_; clear n0_ n1_ n2_ n3_ n4_ n5_ n6_ n7_; (try clear hb); (try clear hkp); (try clear hy0); have hcz99_0 : w98.cell? ⟨gb119, 0, none⟩ = some (.slice Ao33 t115.length co33) := (blk_cell BK119.out 0).trans rfl; have hfz99_0 := blk_frozen BK119.out 0) | ((with_reducible refine gate_callee (f := 29) rfl ?_); refine goesL_ (some 71) rfl rfl Try.func29 (by kernel_rfl) rfl #[.agg #[.slice Ao33 t129.length co33], .int .i64 1] rfl (by (try simp only [List.map_toArray, List.map_cons, List.map_nil]); first | done | (rw [show t129.length = t115.length from (Kd.R_reads' HO_120000.out).1.symm] <;> rfl) | rfl | (simp only [List.length_drop, List.length_take]; rfl)) ?_; (with_reducible refine (laws_heldSeq.calls kj60 _ _ t129 1 t130 _ ?side1 ?side2 A92.out).mono ?_); (case side1 => repeat (first | exact (Kd.R_reads' HO_120000.out).2.2 | (with_reducible refine Kd.C_alloc ?_ _) | (with_reducible refine Kd.C_drewN ?_ _) | (with_reducible refine Kd.C_drew ?_))); (case side2 => rw [show t129.length = t115.length from (Kd.R_reads' HO_120000.out).1.symm]; exact (Kd.R_reads' HO_120000.out).2.1); rintro e w100 ⟨rfl, hb⟩; refine ⟨_, rfl, ?_⟩; have n0_ := mz (Kd.R_below (by (with_reducible repeat (first | apply Kd.R_alloc | apply Kd.R_drewN | apply Kd.R_drew)); exact HO_111000.out) hb); have n1_ := mz (Kd.R_below (by (with_reducible repeat (first | apply Kd.R_alloc | apply Kd.R_drewN | apply Kd.R_drew)); exact HO_115000.out) hb); have n2_ := mz (Kd.R_below (by (with_reducible repeat (first | apply Kd.R_alloc | apply Kd.R_drewN | apply Kd.R_drew)); exact HO_120000.out) hb); have n3_ := mz (blk_below (g := gb101) (o := .cells #[.slice A0_0 l0_0.length c0_0] 24 (0, 0)) (by (with_reducible repeat (first | refine blk_drewN ?_ _ | refine blk_drew ?_ | refine blk_alloc ?_ _)); exact BK101.out) hb); have n4_ := mz (blk_below (g := gb110) (o := .cells #[.slice Ao21 t106.length co21] 29 (0, 0)) (by (with_reducible repeat (first | refine blk_drewN ?_ _ | refine blk_drew ?_ | refine blk_alloc ?_ _)); exact BK110.out) hb); have n5_ := mz (blk_below (g := gb114) (o := .cells #[.slice Ao27 t126.length co27] 29 (0, 0)) (by (with_reducible repeat (first | refine blk_drewN ?_ _ | refine blk_drew ?_ | refine blk_alloc ?_ _)); exact BK114.out) hb); have n6_ := mz (blk_below (g := gb119) (o := .cells #[.slice Ao33 t115.length co33] 29 (0, 0)) (by (with_reducible repeat (first | refine blk_drewN ?_ _ | refine blk_drew ?_ | refine blk_alloc ?_ _)); exact BK119.out) hb); have n7_ := mz (below_step (by repeat (first | (with_reducible first | exact HB.out | apply below_alloc | apply pw_below_drewN | apply below_drew1 | refine below_set ?_ GE101.out | refine below_set ?_ GE110.out | refine below_set ?_ GE114.out | refine below_set ?_ GE119.out) | exact HB.out)) hb); clear HO_111000; clear HO_115000; clear HO_120000; clear BK101; clear BK110; clear BK114; clear BK119; clear HB; have HO_111000 := n0_; have HO_115000 := n1_; have HO_120000 := n2_; have BK101 := n3_; have BK110 := n4_; have BK114 := n5_; have BK119 := n6_; have HB := n7_; clear n0_ n1_ n2_ n3_ n4_ n5_ n6_ n7_; (try clear hb); (try clear hb2); (try clear hk); (try clear hi)))
                    go_ret
                    exact ⟨by first | rfl | (simp [errW_none, errW_some] <;> rfl) | (simp [*, errW_none, errW_some] <;> rfl), by repeat (first | (with_reducible first | exact HB.out | apply below_alloc | apply pw_below_drewN | apply below_drew1 | refine below_set ?_ GE101.out | refine below_set ?_ GE110.out | refine below_set ?_ GE114.out | refine below_set ?_ GE119.out) | exact HB.out)⟩
                  · rw [if_neg c93] at H
                    have c93b0 : decide (t130 < 0) = false := decide_eq_false c93
                    clear c93
                    by_cases c101 : t130 = t128
                    · rw [if_pos c101] at H
                      have c101b0 : (t130 == t128) = true := beq_iff_eq.mpr c101
                      have c101b1 : (t130 != t128) = false := bne_eq_false_iff_eq.mpr c101
                      clear c101
                      replace H := be0_ H
                      obtain ⟨t131, A1020, H⟩ := H
                      replace H : ((impl_DropAtom.f t131 a1).bind fun bt134 => ((laws_eqSeq.f kj60 bt134.1 t106).bind fun t139 => (if t139 = true then (laws_FnExactDropAtom.j2 kj60 t128 (bt134.2 != t109) t129) else (laws_FnExactDropAtom.j2 kj60 t128 true t129)))) = some r := H
                      have A102 := mz A1020
                      clear A1020
                      replace H := be0_ H
                      obtain ⟨⟨t134, t137⟩, A1030, H⟩ := H
                      replace H : ((laws_eqSeq.f kj60 t134 t106).bind fun t139 => (if t139 = true then (laws_FnExactDropAtom.j2 kj60 t128 (t137 != t109) t129) else (laws_FnExactDropAtom.j2 kj60 t128 true t129))) = some r := H
                      have A103 := mz A1030
                      clear A1030
                      have HC104 := mz H
                      clear H
                      have hnb105 := NB119_101.out
                      have hnc105 := NB101_119.out
                      have hnb106 := NB119_110.out
                      have hnc106 := NB110_119.out
                      have hnb107 := NB119_114.out
                      have hnc107 := NB114_119.out
                      have hcz108_0 : wc.cell? ⟨gb119, 0, none⟩ = some (.slice Ao33 t115.length co33) := (blk_cell BK119.out 0).trans rfl
                      have hfz108_0 := blk_frozen BK119.out 0
                      go_upto_region 25 with (first | ((with_reducible refine gate_callee (f := 24) rfl ?_); refine goesL_ (some 68) rfl rfl Try.func24 (by kernel_rfl) rfl #[.agg #[.slice Ao33 t115.length co33], .int .i64 1] rfl (by (try simp only [List.map_toArray, List.map_cons, List.map_nil]); first | done | rfl | (simp only [List.length_drop, List.length_take]; rfl)) ?_; (with_reducible refine (laws_markSeq.calls kj60 (fun k_ => some k_ = (.slice Ao33 t115.length co33 : Value).ownBlock) (.slice Ao33 t115.length co33) t115 1 t128 t129 w _ ?side1 ?side2 A91.out).mono ?_); (case side1 => repeat (first | (with_reducible first | exact HB.out | apply below_alloc | apply pw_below_drewN | apply below_drew1 | refine below_set ?_ GE101.out | refine below_set ?_ GE110.out | refine below_set ?_ GE114.out | refine below_set ?_ GE119.out) | exact HB.out)); (case side2 => exact Kd.R_tight rfl HO_120000.out); rintro e w109 ⟨rfl, hy0, hb, hkp⟩; refine ⟨_, rfl, ?_⟩; have n0_ := mz (Kd.R_mono (ok' := fun k_ => some k_ ≠ (.slice Ao27 t126.length co27 : Value).ownBlock ∧ some k_ ≠ (.slice Ao33 t115.length co33 : Value).ownBlock) (Kd.R_keptB (HO_111000.out) hkp (fun k_ hk_ hs_ => (hk_.2) hs_)) (fun k_ hk_ => ⟨hk_.1.1, hk_.1.2⟩)); have n1_ := mz (Kd.R_mono (ok' := fun k_ => some k_ ≠ (.slice Ao21 t106.length co21 : Value).ownBlock ∧ some k_ ≠ (.slice Ao33 t115.length co33 : Value).ownBlock) (Kd.R_keptB (HO_115000.out) hkp (fun k_ hk_ hs_ => (hk_.2) hs_)) (fun k_ hk_ => ⟨hk_.1.1, hk_.1.2⟩)); have n2_ := mz (Kd.R_reok rfl hy0 (fun k_ e_ => HO_120000.out.1 k_ e_)); have n3_ := mz (blk_kept (by (with_reducible repeat (first | refine blk_drewN ?_ _ | refine blk_drew ?_ | refine blk_alloc ?_ _)); exact BK101.out) hkp (fun hs_ => (fun e_ => (Kd.R_ne HO_120000.out BK101.out (by decide)) e_) hs_)); have n4_ := mz (blk_kept (by (with_reducible repeat (first | refine blk_drewN ?_ _ | refine blk_drew ?_ | refine blk_alloc ?_ _)); exact BK110.out) hkp (fun hs_ => (fun e_ => (Kd.R_ne HO_120000.out BK110.out (by decide)) e_) hs_)); have n5_ := mz (blk_kept (by (with_reducible repeat (first | refine blk_drewN ?_ _ | refine blk_drew ?_ | refine blk_alloc ?_ _)); exact BK114.out) hkp (fun hs_ => (fun e_ => (Kd.R_ne HO_120000.out BK114.out (by decide)) e_) hs_)); have n6_ := mz (blk_kept (by (with_reducible repeat (first | refine blk_drewN ?_ _ | refine blk_drew ?_ | refine blk_alloc ?_ _)); exact BK119.out) hkp (fun hs_ => (fun e_ => (Kd.R_ne HO_120000.out BK119.out (by decide)) e_) hs_)); have n7_ := mz (hb); clear HO_111000; clear HO_115000; clear HO_120000; clear BK101; clear BK110; clear BK114; clear BK119; clear HB; have HO_111000 := n0_; have HO_115000 := n1_; have HO_120000 := n2_; have BK101 := n3_; have BK110 := n4_; have BK114 := n5_; have BK119 := n6_; have HB := n7_; clear n0_ n1_ n2_ n3_ n4_ n5_ n6_ n7_; (try clear hb); (try clear hkp); (try clear hy0); have hcz110_0 : w109.cell? ⟨gb119, 0, none⟩ = some (.slice Ao33 t115.length co33) := (blk_cell BK119.out 0).trans rfl; have hfz110_0 := blk_frozen BK119.out 0) | ((with_reducible refine gate_callee (f := 29) rfl ?_); refine goesL_ (some 71) rfl rfl Try.func29 (by kernel_rfl) rfl #[.agg #[.slice Ao33 t129.length co33], .int .i64 1] rfl (by (try simp only [List.map_toArray, List.map_cons, List.map_nil]); first | done | (rw [show t129.length = t115.length from (Kd.R_reads' HO_120000.out).1.symm] <;> rfl) | rfl | (simp only [List.length_drop, List.length_take]; rfl)) ?_; (with_reducible refine (laws_heldSeq.calls kj60 _ _ t129 1 t130 _ ?side1 ?side2 A92.out).mono ?_); (case side1 => repeat (first | exact (Kd.R_reads' HO_120000.out).2.2 | (with_reducible refine Kd.C_alloc ?_ _) | (with_reducible refine Kd.C_drewN ?_ _) | (with_reducible refine Kd.C_drew ?_))); (case side2 => rw [show t129.length = t115.length from (Kd.R_reads' HO_120000.out).1.symm]; exact (Kd.R_reads' HO_120000.out).2.1); rintro e w111 ⟨rfl, hb⟩; refine ⟨_, rfl, ?_⟩; have n0_ := mz (Kd.R_below (by (with_reducible repeat (first | apply Kd.R_alloc | apply Kd.R_drewN | apply Kd.R_drew)); exact HO_111000.out) hb); have n1_ := mz (Kd.R_below (by (with_reducible repeat (first | apply Kd.R_alloc | apply Kd.R_drewN | apply Kd.R_drew)); exact HO_115000.out) hb); have n2_ := mz (Kd.R_below (by (with_reducible repeat (first | apply Kd.R_alloc | apply Kd.R_drewN | apply Kd.R_drew)); exact HO_120000.out) hb); have n3_ := mz (blk_below (g := gb101) (o := .cells #[.slice A0_0 l0_0.length c0_0] 24 (0, 0)) (by (with_reducible repeat (first | refine blk_drewN ?_ _ | refine blk_drew ?_ | refine blk_alloc ?_ _)); exact BK101.out) hb); have n4_ := mz (blk_below (g := gb110) (o := .cells #[.slice Ao21 t106.length co21] 29 (0, 0)) (by (with_reducible repeat (first | refine blk_drewN ?_ _ | refine blk_drew ?_ | refine blk_alloc ?_ _)); exact BK110.out) hb); have n5_ := mz (blk_below (g := gb114) (o := .cells #[.slice Ao27 t126.length co27] 29 (0, 0)) (by (with_reducible repeat (first | refine blk_drewN ?_ _ | refine blk_drew ?_ | refine blk_alloc ?_ _)); exact BK114.out) hb); have n6_ := mz (blk_below (g := gb119) (o := .cells #[.slice Ao33 t115.length co33] 29 (0, 0)) (by (with_reducible repeat (first | refine blk_drewN ?_ _ | refine blk_drew ?_ | refine blk_alloc ?_ _)); exact BK119.out) hb); have n7_ := mz (below_step (by repeat (first | (with_reducible first | exact HB.out | apply below_alloc | apply pw_below_drewN | apply below_drew1 | refine below_set ?_ GE101.out | refine below_set ?_ GE110.out | refine below_set ?_ GE114.out | refine below_set ?_ GE119.out) | exact HB.out)) hb); clear HO_111000; clear HO_115000; clear HO_120000; clear BK101; clear BK110; clear BK114; clear BK119; clear HB; have HO_111000 := n0_; have HO_115000 := n1_; have HO_120000 := n2_; have BK101 := n3_; have BK110 := n4_; have BK114 := n5_; have BK119 := n6_; have HB := n7_; clear n0_ n1_ n2_ n3_ n4_ n5_ n6_ n7_; (try clear hb); (try clear hb2); (try clear hk); (try clear hi); have hnb112 := NB101_110.out; have hnc112 := NB110_101.out; have hnb113 := NB101_114.out; have hnc113 := NB114_101.out; have hcz114_0 : w111.cell? ⟨gb101, 0, none⟩ = some (.slice A0_0 l0_0.length c0_0) := (blk_cell BK101.out 0).trans rfl; have hfz114_0 := blk_frozen BK101.out 0) | ((with_reducible refine gate_callee (f := 14) rfl ?_); refine goesL_ (some 79) rfl rfl Try.func14 (by kernel_rfl) rfl #[.agg #[.slice A0_0 l0_0.length c0_0]] rfl (by (try simp only [List.map_toArray, List.map_cons, List.map_nil]); first | done | rfl | (simp only [List.length_drop, List.length_take]; rfl)) ?_; (with_reducible refine (laws_toSeq.calls kj60 _ _ l0_0 t131 _ ?side1 ?side2 A102.out).mono ?_); (case side1 => repeat (first | exact (Kd.C_below HR0_0.out HB.out) | (with_reducible refine Kd.C_alloc ?_ _) | (with_reducible refine Kd.C_drewN ?_ _) | (with_reducible refine Kd.C_drew ?_))); (case side2 => exact HC0_0.out); rintro e w115 ⟨v132, rfl, ho0, hb⟩; refine ⟨_, rfl, ?_⟩; have n0_ := mz (Kd.R_elder' (by (with_reducible repeat (first | apply Kd.R_alloc | apply Kd.R_drewN | apply Kd.R_drew)); exact HO_111000.out) (Kd.R_base ho0) hb); have n1_ := mz (Kd.R_elder' (by (with_reducible repeat (first | apply Kd.R_alloc | apply Kd.R_drewN | apply Kd.R_drew)); exact HO_115000.out) (Kd.R_base ho0) hb); have n2_ := mz (Kd.R_elder' (by (with_reducible repeat (first | apply Kd.R_alloc | apply Kd.R_drewN | apply Kd.R_drew)); exact HO_120000.out) (Kd.R_base ho0) hb); have n3_ := mz (Kd.R_lower (Kd.R_new' (Kd.R_new' (Kd.R_new' ho0 (Kd.R_lt (by (with_reducible repeat (first | apply Kd.R_alloc | apply Kd.R_drewN | apply Kd.R_drew)); exact HO_111000.out))) (Kd.R_lt (by (with_reducible repeat (first | apply Kd.R_alloc | apply Kd.R_drewN | apply Kd.R_drew)); exact HO_115000.out))) (Kd.R_lt (by (with_reducible repeat (first | apply Kd.R_alloc | apply Kd.R_drewN | apply Kd.R_drew)); exact HO_120000.out))) (below_size (by repeat (first | (with_reducible first | exact HB.out | apply below_alloc | apply pw_below_drewN | apply below_drew1 | refine below_set ?_ GE101.out | refine below_set ?_ GE110.out | refine below_set ?_ GE114.out | refine below_set ?_ GE119.out) | exact HB.out)))); have n4_ := mz (blk_below (g := gb101) (o := .cells #[.slice A0_0 l0_0.length c0_0] 24 (0, 0)) (by (with_reducible repeat (first | refine blk_drewN ?_ _ | refine blk_drew ?_ | refine blk_alloc ?_ _)); exact BK101.out) hb); have n5_ := mz (blk_below (g := gb110) (o := .cells #[.slice Ao21 t106.length co21] 29 (0, 0)) (by (with_reducible repeat (first | refine blk_drewN ?_ _ | refine blk_drew ?_ | refine blk_alloc ?_ _)); exact BK110.out) hb); have n6_ := mz (blk_below (g := gb114) (o := .cells #[.slice Ao27 t126.length co27] 29 (0, 0)) (by (with_reducible repeat (first | refine blk_drewN ?_ _ | refine blk_drew ?_ | refine blk_alloc ?_ _)); exact BK114.out) hb); have n7_ := mz (blk_below (g := gb119) (o := .cells #[.slice Ao33 t115.length co33] 29 (0, 0)) (by (with_reducible repeat (first | refine blk_drewN ?_ _ | refine blk_drew ?_ | refine blk_alloc ?_ _)); exact BK119.out) hb); have n8_ := mz (below_step (by repeat (first | (with_reducible first | exact HB.out | apply below_alloc | apply pw_below_drewN | apply below_drew1 | refine below_set ?_ GE101.out | refine below_set ?_ GE110.out | refine below_set ?_ GE114.out | refine below_set ?_ GE119.out) | exact HB.out)) hb); clear HO_111000; clear HO_115000; clear HO_120000; clear BK101; clear BK110; clear BK114; clear BK119; clear HB; have HO_111000 := n0_; have HO_115000 := n1_; have HO_120000 := n2_; have HO133 := n3_; have BK101 := n4_; have BK110 := n5_; have BK114 := n6_; have BK119 := n7_; have HB := n8_; clear n0_ n1_ n2_ n3_ n4_ n5_ n6_ n7_ n8_; (try clear hb); (try clear hb2); (try clear hk); (try clear hi); (try clear ho0); obtain ⟨Ao116, co116, eo116⟩ := Kd.R_slice HO133.out; subst eo116) | ((with_reducible refine gate_callee (f := 28) rfl ?_); refine goesL_ (some 81) rfl rfl Try.func28 (by kernel_rfl) rfl #[.agg #[.slice Ao116 t131.length co116], .int .i64 a1] rfl (by (try simp only [List.map_toArray, List.map_cons, List.map_nil]); first | done | rfl | (simp only [List.length_drop, List.length_take]; rfl)) ?_; (with_reducible refine (impl_DropAtom.calls _ _ t131 a1 t134 t137 _ ?side1 ?side2 A103.out).mono ?_); (case side1 => repeat (first | exact (Kd.R_reads' HO133.out).2.2 | (with_reducible refine Kd.C_alloc ?_ _) | (with_reducible refine Kd.C_drewN ?_ _) | (with_reducible refine Kd.C_drew ?_))); (case side2 => exact (Kd.R_reads' HO133.out).2.1); rintro e w117 ⟨v135, rfl, ho0, hb⟩; refine ⟨_, rfl, ?_⟩; have n0_ := mz (Kd.R_elder' (by (with_reducible repeat (first | apply Kd.R_alloc | apply Kd.R_drewN | apply Kd.R_drew)); exact HO_111000.out) (Kd.R_base ho0) hb); have n1_ := mz (Kd.R_elder' (by (with_reducible repeat (first | apply Kd.R_alloc | apply Kd.R_drewN | apply Kd.R_drew)); exact HO_115000.out) (Kd.R_base ho0) hb); have n2_ := mz (Kd.R_elder' (by (with_reducible repeat (first | apply Kd.R_alloc | apply Kd.R_drewN | apply Kd.R_drew)); exact HO_120000.out) (Kd.R_base ho0) hb); have n3_ := mz (Kd.R_elder' (by (with_reducible repeat (first | apply Kd.R_alloc | apply Kd.R_drewN | apply Kd.R_drew)); exact HO133.out) (Kd.R_base ho0) hb); have n4_ := mz (Kd.R_lower (Kd.R_new' (Kd.R_new' (Kd.R_new' (Kd.R_new' ho0 (Kd.R_lt (by (with_reducible repeat (first | apply Kd.R_alloc | apply Kd.R_drewN | apply Kd.R_drew)); exact HO_111000.out))) (Kd.R_lt (by (with_reducible repeat (first | apply Kd.R_alloc | apply Kd.R_drewN | apply Kd.R_drew)); exact HO_115000.out))) (Kd.R_lt (by (with_reducible repeat (first | apply Kd.R_alloc | apply Kd.R_drewN | apply Kd.R_drew)); exact HO_120000.out))) (Kd.R_lt (by (with_reducible repeat (first | apply Kd.R_alloc | apply Kd.R_drewN | apply Kd.R_drew)); exact HO133.out))) (below_size (by repeat (first | (with_reducible first | exact HB.out | apply below_alloc | apply pw_below_drewN | apply below_drew1 | refine below_set ?_ GE101.out | refine below_set ?_ GE110.out | refine below_set ?_ GE114.out | refine below_set ?_ GE119.out) | exact HB.out)))); have n5_ := mz (blk_below (g := gb101) (o := .cells #[.slice A0_0 l0_0.length c0_0] 24 (0, 0)) (by (with_reducible repeat (first | refine blk_drewN ?_ _ | refine blk_drew ?_ | refine blk_alloc ?_ _)); exact BK101.out) hb); have n6_ := mz (blk_below (g := gb110) (o := .cells #[.slice Ao21 t106.length co21] 29 (0, 0)) (by (with_reducible repeat (first | refine blk_drewN ?_ _ | refine blk_drew ?_ | refine blk_alloc ?_ _)); exact BK110.out) hb); have n7_ := mz (blk_below (g := gb114) (o := .cells #[.slice Ao27 t126.length co27] 29 (0, 0)) (by (with_reducible repeat (first | refine blk_drewN ?_ _ | refine blk_drew ?_ | refine blk_alloc ?_ _)); exact BK114.out) hb); have n8_ := mz (blk_below (g := gb119) (o := .cells #[.slice Ao33 t115.length co33] 29 (0, 0)) (by (with_reducible repeat (first | refine blk_drewN ?_ _ | refine blk_drew ?_ | refine blk_alloc ?_ _)); exact BK119.out) hb); have n9_ := mz (below_step (by repeat (first | (with_reducible first | exact HB.out | apply below_alloc | apply pw_below_drewN | apply below_drew1 | refine below_set ?_ GE101.out | refine below_set ?_ GE110.out | refine below_set ?_ GE114.out | refine below_set ?_ GE119.out) | exact HB.out)) hb); clear HO_111000; clear HO_115000; clear HO_120000; clear HO133; clear BK101; clear BK110; clear BK114; clear BK119; clear HB; have HO_111000 := n0_; have HO_115000 := n1_; have HO_120000 := n2_; have HO133 := n3_; have HO136 := n4_; have BK101 := n5_; have BK110 := n6_; have BK114 := n7_; have BK119 := n8_; have HB := n9_; clear n0_ n1_ n2_ n3_ n4_ n5_ n6_ n7_ n8_ n9_; (try clear hb); (try clear hb2); (try clear hk); (try clear hi); (try clear ho0)) | ((with_reducible refine gate_dst (N := 14) rfl ?_); refine box_event ?hg (N := 14) ?hd (cs := #[.slice none 0 0]) (t := 29) ?hr ?_; (case hd => rfl); (case hg => rfl); (case hr => first | (go_simp; done) | (go_simp; rfl) | (obtain ⟨_, _, e_, _⟩ := OwnRow.slice_ (HO133.out).2; subst e_; first | (go_simp; done) | (go_simp; rfl))); intro gb138 hg w118 hbox hb; have n0_ := mz (Kd.R_below (by (with_reducible repeat (first | apply Kd.R_alloc | apply Kd.R_drewN | apply Kd.R_drew)); exact HO_111000.out) hb); have n1_ := mz (Kd.R_below (by (with_reducible repeat (first | apply Kd.R_alloc | apply Kd.R_drewN | apply Kd.R_drew)); exact HO_115000.out) hb); have n2_ := mz (Kd.R_below (by (with_reducible repeat (first | apply Kd.R_alloc | apply Kd.R_drewN | apply Kd.R_drew)); exact HO_120000.out) hb); have n3_ := mz (Kd.R_below (by (with_reducible repeat (first | apply Kd.R_alloc | apply Kd.R_drewN | apply Kd.R_drew)); exact HO133.out) hb); have n4_ := mz (Kd.R_below (by (with_reducible repeat (first | apply Kd.R_alloc | apply Kd.R_drewN | apply Kd.R_drew)); exact HO136.out) hb); have n5_ := mz (blk_below (g := gb101) (o := .cells #[.slice A0_0 l0_0.length c0_0] 24 (0, 0)) (by (with_reducible repeat (first | refine blk_drewN ?_ _ | refine blk_drew ?_ | refine blk_alloc ?_ _)); exact BK101.out) hb); have n6_ := mz (blk_below (g := gb110) (o := .cells #[.slice Ao21 t106.length co21] 29 (0, 0)) (by (with_reducible repeat (first | refine blk_drewN ?_ _ | refine blk_drew ?_ | refine blk_alloc ?_ _)); exact BK110.out) hb); have n7_ := mz (blk_below (g := gb114) (o := .cells #[.slice Ao27 t126.length co27] 29 (0, 0)) (by (with_reducible repeat (first | refine blk_drewN ?_ _ | refine blk_drew ?_ | refine blk_alloc ?_ _)); exact BK114.out) hb); have n8_ := mz (blk_below (g := gb119) (o := .cells #[.slice Ao33 t115.length co33] 29 (0, 0)) (by (with_reducible repeat (first | refine blk_drewN ?_ _ | refine blk_drew ?_ | refine blk_alloc ?_ _)); exact BK119.out) hb); have n9_ := mz (below_step (by repeat (first | (with_reducible first | exact HB.out | apply below_alloc | apply pw_below_drewN | apply below_drew1 | refine below_set ?_ GE101.out | refine below_set ?_ GE110.out | refine below_set ?_ GE114.out | refine below_set ?_ GE119.out) | exact HB.out)) hb); have n10_ := mz (hbox); have n11_ := mz ((by rw [hg]; exact (below_size (by repeat (first | (with_reducible first | exact HB.out | apply below_alloc | apply pw_below_drewN | apply below_drew1 | refine below_set ?_ GE101.out | refine below_set ?_ GE110.out | refine below_set ?_ GE114.out | refine below_set ?_ GE119.out) | exact HB.out))) : w.heap.size ≤ gb138)); have n12_ := mz ((by rw [hg]; exact (below_size (by repeat (first | (with_reducible first | exact HB.out | apply below_alloc | apply pw_below_drewN | apply below_drew1 | refine below_set ?_ GE101.out | refine below_set ?_ GE110.out | refine below_set ?_ GE114.out | refine below_set ?_ GE119.out) | exact HB.out))) : w.heap.size ≤ gb138)); have n13_ := mz ((by rw [hg]; exact Nat.ne_of_lt (blk_lt (g := gb101) (o := .cells #[.slice A0_0 l0_0.length c0_0] 24 (0, 0)) (by (with_reducible repeat (first | refine blk_drewN ?_ _ | refine blk_drew ?_ | refine blk_alloc ?_ _)); exact BK101.out)) : gb101 ≠ gb138)); have n14_ := mz ((by rw [hg]; exact Nat.ne_of_gt (blk_lt (g := gb101) (o := .cells #[.slice A0_0 l0_0.length c0_0] 24 (0, 0)) (by (with_reducible repeat (first | refine blk_drewN ?_ _ | refine blk_drew ?_ | refine blk_alloc ?_ _)); exact BK101.out)) : gb138 ≠ gb101)); have n15_ := mz ((by rw [hg]; exact Nat.ne_of_lt (blk_lt (g := gb110) (o := .cells #[.slice Ao21 t106.length co21] 29 (0, 0)) (by (with_reducible repeat (first | refine blk_drewN ?_ _ | refine blk_drew ?_ | refine blk_alloc ?_ _)); exact BK110.out)) : gb110 ≠ gb138)); have n16_ := mz ((by rw [hg]; exact Nat.ne_of_gt (blk_lt (g := gb110) (o := .cells #[.slice Ao21 t106.length co21] 29 (0, 0)) (by (with_reducible repeat (first | refine blk_drewN ?_ _ | refine blk_drew ?_ | refine blk_alloc ?_ _)); exact BK110.out)) : gb138 ≠ gb110)); have n17_ := mz ((by rw [hg]; exact Nat.ne_of_lt (blk_lt (g := gb114) (o := .cells #[.slice Ao27 t126.length co27] 29 (0, 0)) (by (with_reducible repeat (first | refine blk_drewN ?_ _ | refine blk_drew ?_ | refine blk_alloc ?_ _)); exact BK114.out)) : gb114 ≠ gb138)); have n18_ := mz ((by rw [hg]; exact Nat.ne_of_gt (blk_lt (g := gb114) (o := .cells #[.slice Ao27 t126.length co27] 29 (0, 0)) (by (with_reducible repeat (first | refine blk_drewN ?_ _ | refine blk_drew ?_ | refine blk_alloc ?_ _)); exact BK114.out)) : gb138 ≠ gb114)); have n19_ := mz ((by rw [hg]; exact Nat.ne_of_lt (blk_lt (g := gb119) (o := .cells #[.slice Ao33 t115.length co33] 29 (0, 0)) (by (with_reducible repeat (first | refine blk_drewN ?_ _ | refine blk_drew ?_ | refine blk_alloc ?_ _)); exact BK119.out)) : gb119 ≠ gb138)); have n20_ := mz ((by rw [hg]; exact Nat.ne_of_gt (blk_lt (g := gb119) (o := .cells #[.slice Ao33 t115.length co33] 29 (0, 0)) (by (with_reducible repeat (first | refine blk_drewN ?_ _ | refine blk_drew ?_ | refine blk_alloc ?_ _)); exact BK119.out)) : gb138 ≠ gb119)); clear HO_111000; clear HO_115000; clear HO_120000; clear HO133; clear HO136; clear BK101; clear BK110; clear BK114; clear BK119; clear HB; have HO_111000 := n0_; have HO_115000 := n1_; have HO_120000 := n2_; have HO133 := n3_; have HO136 := n4_; have BK101 := n5_; have BK110 := n6_; have BK114 := n7_; have BK119 := n8_; have HB := n9_; have BK138 := n10_; have GW138 := n11_; have GE138 := n12_; have NB101_138 := n13_; have NB138_101 := n14_; have NB110_138 := n15_; have NB138_110 := n16_; have NB114_138 := n17_; have NB138_114 := n18_; have NB119_138 := n19_; have NB138_119 := n20_; clear n0_ n1_ n2_ n3_ n4_ n5_ n6_ n7_ n8_ n9_ n10_ n11_ n12_ n13_ n14_ n15_ n16_ n17_ n18_ n19_ n20_; clear hb hbox hg; obtain ⟨Ao119, co119, eo119⟩ := Kd.R_slice HO136.out; subst eo119; have hnb120 := NB138_101.out; have hnc120 := NB101_138.out; have hnb121 := NB138_110.out; have hnc121 := NB110_138.out; have hnb122 := NB138_114.out; have hnc122 := NB114_138.out; have hnb123 := NB138_119.out; have hnc123 := NB119_138.out; have hcz124_0 : w118.cell? ⟨gb138, 0, none⟩ = some (.slice none 0 0) := (blk_cell BK138.out 0).trans rfl; have hfz124_0 := blk_frozen BK138.out 0))
                      (try simp only [Act.put, List.setIfInBounds_toArray, List.set_cons_zero, List.set_cons_succ])
                      go_cut [92] (fun v92 wc => ∃ (kq : Nat) (x92_103 : Bool), v92 = .bool x92_103 ∧ Aside0 (laws_FnExactDropAtom.j2 kq t128 x92_103 t129 = some r) ∧ Aside0 (kq ≤ kj60) ∧ Aside0 (Kd.R k61 61 wc w.heap.size (fun k_ => some k_ ≠ ((.slice Ao27 t126.length co27) : Value).ownBlock ∧ some k_ ≠ ((.slice Ao33 t115.length co33) : Value).ownBlock ∧ some k_ ≠ ((.slice Ao119 t134.length co119) : Value).ownBlock) (.slice Ao21 t106.length co21) t106) ∧ Aside0 (Kd.R k61 61 wc w.heap.size (fun k_ => some k_ ≠ ((.slice Ao21 t106.length co21) : Value).ownBlock ∧ some k_ ≠ ((.slice Ao33 t115.length co33) : Value).ownBlock ∧ some k_ ≠ ((.slice Ao119 t134.length co119) : Value).ownBlock) (.slice Ao27 t126.length co27) t126) ∧ Aside0 (Kd.R k61 61 wc w.heap.size (fun k_ => some k_ ≠ ((.slice Ao21 t106.length co21) : Value).ownBlock ∧ some k_ ≠ ((.slice Ao27 t126.length co27) : Value).ownBlock ∧ some k_ ≠ ((.slice Ao119 t134.length co119) : Value).ownBlock) (.slice Ao33 t115.length co33) t129) ∧ Aside0 (Kd.R k61 61 wc w.heap.size (fun k_ => some k_ ≠ ((.slice Ao21 t106.length co21) : Value).ownBlock ∧ some k_ ≠ ((.slice Ao27 t126.length co27) : Value).ownBlock ∧ some k_ ≠ ((.slice Ao33 t115.length co33) : Value).ownBlock) (.slice Ao119 t134.length co119) t134) ∧ Aside0 (wc.heap[gb101]? = some (.cells #[(.slice A0_0 l0_0.length c0_0)] 24 (0, 0))) ∧ Aside0 (wc.heap[gb110]? = some (.cells #[(.slice Ao21 t106.length co21)] 29 (0, 0))) ∧ Aside0 (wc.heap[gb114]? = some (.cells #[(.slice Ao27 t126.length co27)] 29 (0, 0))) ∧ Aside0 (wc.heap[gb119]? = some (.cells #[(.slice Ao33 t115.length co33)] 29 (0, 0))) ∧ Aside0 (wc.heap[gb138]? = some (.cells #[(.slice Ao119 t134.length co119)] 29 (0, 0))) ∧ Aside0 (Below w.heap.size w wc))
                      case first =>
                        have H := HC104.out
                        clear HC104
                        replace H := be0_ H
                        obtain ⟨t139, A1250, H⟩ := H
                        replace H : (if t139 = true then (laws_FnExactDropAtom.j2 kj60 t128 (t137 != t109) t129) else (laws_FnExactDropAtom.j2 kj60 t128 true t129)) = some r := H
                        have A125 := mz A1250
                        clear A1250
                        by_cases c126 : t139 = true
                        · subst c126
                          have H1 : (laws_FnExactDropAtom.j2 kj60 t128 (t137 != t109) t129) = some r := by rw [if_pos rfl] at H; exact H
                          clear H
                          have H := H1
                          clear H1
                          have H' := mz H
                          clear H
                          have hnb127 := NB138_101.out
                          have hnc127 := NB101_138.out
                          have hnb128 := NB138_110.out
                          have hnc128 := NB110_138.out
                          have hnb129 := NB138_114.out
                          have hnc129 := NB114_138.out
                          have hnb130 := NB138_119.out
                          have hnc130 := NB119_138.out
                          have hcz131_0 : w118.cell? ⟨gb138, 0, none⟩ = some (.slice none 0 0) := (blk_cell BK138.out 0).trans rfl
                          have hfz131_0 := blk_frozen BK138.out 0
                          have hnb132 := NB110_101.out
                          have hnc132 := NB101_110.out
                          have hnb133 := NB110_114.out
                          have hnc133 := NB114_110.out
                          have hnb134 := NB110_119.out
                          have hnc134 := NB119_110.out
                          have hcz135_0 : w118.cell? ⟨gb110, 0, none⟩ = some (.slice Ao21 t106.length co21) := (blk_cell BK110.out 0).trans rfl
                          have hfz135_0 := blk_frozen BK110.out 0
                          go_wp2_with (first | ((with_reducible refine gate_callee (f := 16) rfl ?_); refine goesL_ (some 86) rfl rfl Try.func16 (by kernel_rfl) rfl #[.agg #[.slice Ao119 t134.length co119], .agg #[.slice Ao21 t106.length co21]] rfl (by (try simp only [List.map_toArray, List.map_cons, List.map_nil]); first | done | rfl | (simp only [List.length_drop, List.length_take]; rfl)) ?_; (with_reducible refine (laws_eqSeq.calls kj60 _ _ t134 _ _ t106 true _ ?side1 ?side2 ?side3 ?side4 A125.out).mono ?_); (case side1 => refine (Kd.R_reads' (e := 61) (base := w.heap.size) (ok := fun k_ => ((((True ∧ some k_ ≠ (.slice Ao21 t106.length co21 : Value).ownBlock) ∧ some k_ ≠ (.slice Ao27 t126.length co27 : Value).ownBlock) ∧ some k_ ≠ (.slice Ao33 t115.length co33 : Value).ownBlock) ∧ some k_ ≠ (.slice Ao116 t131.length co116 : Value).ownBlock)) (n := t134.length) (c := co119) ?_).2.2; exact (by (with_reducible repeat (first | apply Kd.R_alloc | apply Kd.R_drewN | apply Kd.R_drew)); exact (Kd.R_mono (Kd.R_far (p := ⟨gb138, 0, none⟩) (Kd.R_types HO136.out BK138.out (by decide)) (fun _ hk => hk.2) (.slice Ao119 t134.length co119)) (fun _ h_ => h_.1)))); (case side2 => exact (Kd.R_reads' HO136.out).2.1); (case side3 => refine (Kd.R_reads' (e := 61) (base := w.heap.size) (ok := fun k_ => (((some k_ ≠ (.slice Ao27 t126.length co27 : Value).ownBlock ∧ some k_ ≠ (.slice Ao33 t115.length co33 : Value).ownBlock) ∧ some k_ ≠ (.slice Ao116 t131.length co116 : Value).ownBlock) ∧ some k_ ≠ (.slice Ao119 t134.length co119 : Value).ownBlock)) (n := t106.length) (c := co21) ?_).2.2; exact (by (with_reducible repeat (first | apply Kd.R_alloc | apply Kd.R_drewN | apply Kd.R_drew)); exact (Kd.R_mono (Kd.R_far (p := ⟨gb138, 0, none⟩) (Kd.R_types HO_111000.out BK138.out (by decide)) (fun _ hk => hk.2) (.slice Ao119 t134.length co119)) (fun _ h_ => h_.1)))); (case side4 => exact (Kd.R_reads' HO_111000.out).2.1); rintro e w136 ⟨rfl, hb⟩; refine ⟨_, rfl, ?_⟩; have n0_ := mz (Kd.R_below (by (with_reducible repeat (first | apply Kd.R_alloc | apply Kd.R_drewN | apply Kd.R_drew)); exact (Kd.R_mono (Kd.R_far (p := ⟨gb138, 0, none⟩) (Kd.R_types HO_111000.out BK138.out (by decide)) (fun _ hk => hk.2) (.slice Ao119 t134.length co119)) (fun _ h_ => h_.1))) hb); have n1_ := mz (Kd.R_below (by (with_reducible repeat (first | apply Kd.R_alloc | apply Kd.R_drewN | apply Kd.R_drew)); exact (Kd.R_mono (Kd.R_far (p := ⟨gb138, 0, none⟩) (Kd.R_types HO_115000.out BK138.out (by decide)) (fun _ hk => hk.2) (.slice Ao119 t134.length co119)) (fun _ h_ => h_.1))) hb); have n2_ := mz (Kd.R_below (by (with_reducible repeat (first | apply Kd.R_alloc | apply Kd.R_drewN | apply Kd.R_drew)); exact (Kd.R_mono (Kd.R_far (p := ⟨gb138, 0, none⟩) (Kd.R_types HO_120000.out BK138.out (by decide)) (fun _ hk => hk.2) (.slice Ao119 t134.length co119)) (fun _ h_ => h_.1))) hb); have n3_ := mz (Kd.R_below (by (with_reducible repeat (first | apply Kd.R_alloc | apply Kd.R_drewN | apply Kd.R_drew)); exact (Kd.R_mono (Kd.R_far (p := ⟨gb138, 0, none⟩) (Kd.R_types HO133.out BK138.out (by decide)) (fun _ hk => hk.2) (.slice Ao119 t134.length co119)) (fun _ h_ => h_.1))) hb); have n4_ := mz (Kd.R_below (by (with_reducible repeat (first | apply Kd.R_alloc | apply Kd.R_drewN | apply Kd.R_drew)); exact (Kd.R_mono (Kd.R_far (p := ⟨gb138, 0, none⟩) (Kd.R_types HO136.out BK138.out (by decide)) (fun _ hk => hk.2) (.slice Ao119 t134.length co119)) (fun _ h_ => h_.1))) hb); have n5_ := mz (blk_below (g := gb101) (o := .cells #[.slice A0_0 l0_0.length c0_0] 24 (0, 0)) (by (with_reducible repeat (first | refine blk_drewN ?_ _ | refine blk_drew ?_ | refine blk_alloc ?_ _)); refine blk_far ?_ NB101_138.out _; (with_reducible repeat (first | refine blk_drewN ?_ _ | refine blk_drew ?_ | refine blk_alloc ?_ _)); exact BK101.out) hb); have n6_ := mz (blk_below (g := gb110) (o := .cells #[.slice Ao21 t106.length co21] 29 (0, 0)) (by (with_reducible repeat (first | refine blk_drewN ?_ _ | refine blk_drew ?_ | refine blk_alloc ?_ _)); refine blk_far ?_ NB110_138.out _; (with_reducible repeat (first | refine blk_drewN ?_ _ | refine blk_drew ?_ | refine blk_alloc ?_ _)); exact BK110.out) hb); have n7_ := mz (blk_below (g := gb114) (o := .cells #[.slice Ao27 t126.length co27] 29 (0, 0)) (by (with_reducible repeat (first | refine blk_drewN ?_ _ | refine blk_drew ?_ | refine blk_alloc ?_ _)); refine blk_far ?_ NB114_138.out _; (with_reducible repeat (first | refine blk_drewN ?_ _ | refine blk_drew ?_ | refine blk_alloc ?_ _)); exact BK114.out) hb); have n8_ := mz (blk_below (g := gb119) (o := .cells #[.slice Ao33 t115.length co33] 29 (0, 0)) (by (with_reducible repeat (first | refine blk_drewN ?_ _ | refine blk_drew ?_ | refine blk_alloc ?_ _)); refine blk_far ?_ NB119_138.out _; (with_reducible repeat (first | refine blk_drewN ?_ _ | refine blk_drew ?_ | refine blk_alloc ?_ _)); exact BK119.out) hb); have n9_ := mz (blk_below (g := gb138) (o := .cells #[.slice Ao119 t134.length co119] 29 (0, 0)) (by (with_reducible repeat (first | refine blk_drewN ?_ _ | refine blk_drew ?_ | refine blk_alloc ?_ _)); refine blk_put (cs := #[.slice none 0 0]) ?_ 0 _ rfl; (with_reducible repeat (first | refine blk_drewN ?_ _ | refine blk_drew ?_ | refine blk_alloc ?_ _)); exact BK138.out) hb); have n10_ := mz (below_step (by repeat (first | (with_reducible first | exact HB.out | apply below_alloc | apply pw_below_drewN | apply below_drew1 | refine below_set ?_ GE101.out | refine below_set ?_ GE110.out | refine below_set ?_ GE114.out | refine below_set ?_ GE119.out | refine below_set ?_ GE138.out) | exact HB.out)) hb); clear HO_111000; clear HO_115000; clear HO_120000; clear HO133; clear HO136; clear BK101; clear BK110; clear BK114; clear BK119; clear BK138; clear HB; have HO_111000 := n0_; have HO_115000 := n1_; have HO_120000 := n2_; have HO133 := n3_; have HO136 := n4_; have BK101 := n5_; have BK110 := n6_; have BK114 := n7_; have BK119 := n8_; have BK138 := n9_; have HB := n10_; clear n0_ n1_ n2_ n3_ n4_ n5_ n6_ n7_ n8_ n9_ n10_; (try clear hb); (try clear hb2); (try clear hk); (try clear hi)))
                          go_meet
                          case rel => exact ⟨_, ((t137 != t109)), (by first | rfl | (simp; done) | (simp [*]; done)), H', ⟨by have := HJ11.out; have := HJ60.out; first | omega | exact Nat.le_refl _⟩, ⟨by (try simp only [hl115000_60]); (with_reducible repeat (first | apply Kd.R_alloc | apply Kd.R_drewN | apply Kd.R_drew)); exact Kd.R_mono HO_111000.out (fun _ hk => ⟨hk.1.1.1, ⟨hk.1.1.2, hk.2⟩⟩)⟩, ⟨by (try simp only [hl115000_60]); (with_reducible repeat (first | apply Kd.R_alloc | apply Kd.R_drewN | apply Kd.R_drew)); exact Kd.R_mono HO_115000.out (fun _ hk => ⟨hk.1.1.1, ⟨hk.1.1.2, hk.2⟩⟩)⟩, ⟨by (try simp only [hl115000_60]); (with_reducible repeat (first | apply Kd.R_alloc | apply Kd.R_drewN | apply Kd.R_drew)); exact Kd.R_mono HO_120000.out (fun _ hk => ⟨hk.1.1.1, ⟨hk.1.1.2, hk.2⟩⟩)⟩, ⟨by (try simp only [hl115000_60]); (with_reducible repeat (first | apply Kd.R_alloc | apply Kd.R_drewN | apply Kd.R_drew)); exact Kd.R_mono HO136.out (fun _ hk => ⟨hk.1.1.1.2, ⟨hk.1.1.2, hk.1.2⟩⟩)⟩, ⟨by (try simp only [hl115000_60]); (with_reducible repeat (first | refine blk_drewN ?_ _ | refine blk_drew ?_ | refine blk_alloc ?_ _)); exact BK101.out⟩, ⟨by (try simp only [hl115000_60]); (with_reducible repeat (first | refine blk_drewN ?_ _ | refine blk_drew ?_ | refine blk_alloc ?_ _)); exact BK110.out⟩, ⟨by (try simp only [hl115000_60]); (with_reducible repeat (first | refine blk_drewN ?_ _ | refine blk_drew ?_ | refine blk_alloc ?_ _)); exact BK114.out⟩, ⟨by (try simp only [hl115000_60]); (with_reducible repeat (first | refine blk_drewN ?_ _ | refine blk_drew ?_ | refine blk_alloc ?_ _)); exact BK119.out⟩, ⟨by (try simp only [hl115000_60]); (with_reducible repeat (first | refine blk_drewN ?_ _ | refine blk_drew ?_ | refine blk_alloc ?_ _)); exact BK138.out⟩, ⟨by repeat (first | (with_reducible first | exact HB.out | apply below_alloc | apply pw_below_drewN | apply below_drew1 | refine below_set ?_ GE101.out | refine below_set ?_ GE110.out | refine below_set ?_ GE114.out | refine below_set ?_ GE119.out | refine below_set ?_ GE138.out) | exact HB.out)⟩⟩
                        · replace c126 := Bool.eq_false_iff.mpr c126
                          subst c126
                          have H1 : (laws_FnExactDropAtom.j2 kj60 t128 true t129) = some r := by rw [if_neg (show ¬ (false = true) by decide)] at H; exact H
                          clear H
                          have H := H1
                          clear H1
                          have H' := mz H
                          clear H
                          have hnb137 := NB138_101.out
                          have hnc137 := NB101_138.out
                          have hnb138 := NB138_110.out
                          have hnc138 := NB110_138.out
                          have hnb139 := NB138_114.out
                          have hnc139 := NB114_138.out
                          have hnb140 := NB138_119.out
                          have hnc140 := NB119_138.out
                          have hcz141_0 : w118.cell? ⟨gb138, 0, none⟩ = some (.slice none 0 0) := (blk_cell BK138.out 0).trans rfl
                          have hfz141_0 := blk_frozen BK138.out 0
                          have hnb142 := NB110_101.out
                          have hnc142 := NB101_110.out
                          have hnb143 := NB110_114.out
                          have hnc143 := NB114_110.out
                          have hnb144 := NB110_119.out
                          have hnc144 := NB119_110.out
                          have hcz145_0 : w118.cell? ⟨gb110, 0, none⟩ = some (.slice Ao21 t106.length co21) := (blk_cell BK110.out 0).trans rfl
                          have hfz145_0 := blk_frozen BK110.out 0
                          go_wp2_with (first | ((with_reducible refine gate_callee (f := 16) rfl ?_); refine goesL_ (some 86) rfl rfl Try.func16 (by kernel_rfl) rfl #[.agg #[.slice Ao119 t134.length co119], .agg #[.slice Ao21 t106.length co21]] rfl (by (try simp only [List.map_toArray, List.map_cons, List.map_nil]); first | done | rfl | (simp only [List.length_drop, List.length_take]; rfl)) ?_; (with_reducible refine (laws_eqSeq.calls kj60 _ _ t134 _ _ t106 false _ ?side1 ?side2 ?side3 ?side4 A125.out).mono ?_); (case side1 => refine (Kd.R_reads' (e := 61) (base := w.heap.size) (ok := fun k_ => ((((True ∧ some k_ ≠ (.slice Ao21 t106.length co21 : Value).ownBlock) ∧ some k_ ≠ (.slice Ao27 t126.length co27 : Value).ownBlock) ∧ some k_ ≠ (.slice Ao33 t115.length co33 : Value).ownBlock) ∧ some k_ ≠ (.slice Ao116 t131.length co116 : Value).ownBlock)) (n := t134.length) (c := co119) ?_).2.2; exact (by (with_reducible repeat (first | apply Kd.R_alloc | apply Kd.R_drewN | apply Kd.R_drew)); exact (Kd.R_mono (Kd.R_far (p := ⟨gb138, 0, none⟩) (Kd.R_types HO136.out BK138.out (by decide)) (fun _ hk => hk.2) (.slice Ao119 t134.length co119)) (fun _ h_ => h_.1)))); (case side2 => exact (Kd.R_reads' HO136.out).2.1); (case side3 => refine (Kd.R_reads' (e := 61) (base := w.heap.size) (ok := fun k_ => (((some k_ ≠ (.slice Ao27 t126.length co27 : Value).ownBlock ∧ some k_ ≠ (.slice Ao33 t115.length co33 : Value).ownBlock) ∧ some k_ ≠ (.slice Ao116 t131.length co116 : Value).ownBlock) ∧ some k_ ≠ (.slice Ao119 t134.length co119 : Value).ownBlock)) (n := t106.length) (c := co21) ?_).2.2; exact (by (with_reducible repeat (first | apply Kd.R_alloc | apply Kd.R_drewN | apply Kd.R_drew)); exact (Kd.R_mono (Kd.R_far (p := ⟨gb138, 0, none⟩) (Kd.R_types HO_111000.out BK138.out (by decide)) (fun _ hk => hk.2) (.slice Ao119 t134.length co119)) (fun _ h_ => h_.1)))); (case side4 => exact (Kd.R_reads' HO_111000.out).2.1); rintro e w146 ⟨rfl, hb⟩; refine ⟨_, rfl, ?_⟩; have n0_ := mz (Kd.R_below (by (with_reducible repeat (first | apply Kd.R_alloc | apply Kd.R_drewN | apply Kd.R_drew)); exact (Kd.R_mono (Kd.R_far (p := ⟨gb138, 0, none⟩) (Kd.R_types HO_111000.out BK138.out (by decide)) (fun _ hk => hk.2) (.slice Ao119 t134.length co119)) (fun _ h_ => h_.1))) hb); have n1_ := mz (Kd.R_below (by (with_reducible repeat (first | apply Kd.R_alloc | apply Kd.R_drewN | apply Kd.R_drew)); exact (Kd.R_mono (Kd.R_far (p := ⟨gb138, 0, none⟩) (Kd.R_types HO_115000.out BK138.out (by decide)) (fun _ hk => hk.2) (.slice Ao119 t134.length co119)) (fun _ h_ => h_.1))) hb); have n2_ := mz (Kd.R_below (by (with_reducible repeat (first | apply Kd.R_alloc | apply Kd.R_drewN | apply Kd.R_drew)); exact (Kd.R_mono (Kd.R_far (p := ⟨gb138, 0, none⟩) (Kd.R_types HO_120000.out BK138.out (by decide)) (fun _ hk => hk.2) (.slice Ao119 t134.length co119)) (fun _ h_ => h_.1))) hb); have n3_ := mz (Kd.R_below (by (with_reducible repeat (first | apply Kd.R_alloc | apply Kd.R_drewN | apply Kd.R_drew)); exact (Kd.R_mono (Kd.R_far (p := ⟨gb138, 0, none⟩) (Kd.R_types HO133.out BK138.out (by decide)) (fun _ hk => hk.2) (.slice Ao119 t134.length co119)) (fun _ h_ => h_.1))) hb); have n4_ := mz (Kd.R_below (by (with_reducible repeat (first | apply Kd.R_alloc | apply Kd.R_drewN | apply Kd.R_drew)); exact (Kd.R_mono (Kd.R_far (p := ⟨gb138, 0, none⟩) (Kd.R_types HO136.out BK138.out (by decide)) (fun _ hk => hk.2) (.slice Ao119 t134.length co119)) (fun _ h_ => h_.1))) hb); have n5_ := mz (blk_below (g := gb101) (o := .cells #[.slice A0_0 l0_0.length c0_0] 24 (0, 0)) (by (with_reducible repeat (first | refine blk_drewN ?_ _ | refine blk_drew ?_ | refine blk_alloc ?_ _)); refine blk_far ?_ NB101_138.out _; (with_reducible repeat (first | refine blk_drewN ?_ _ | refine blk_drew ?_ | refine blk_alloc ?_ _)); exact BK101.out) hb); have n6_ := mz (blk_below (g := gb110) (o := .cells #[.slice Ao21 t106.length co21] 29 (0, 0)) (by (with_reducible repeat (first | refine blk_drewN ?_ _ | refine blk_drew ?_ | refine blk_alloc ?_ _)); refine blk_far ?_ NB110_138.out _; (with_reducible repeat (first | refine blk_drewN ?_ _ | refine blk_drew ?_ | refine blk_alloc ?_ _)); exact BK110.out) hb); have n7_ := mz (blk_below (g := gb114) (o := .cells #[.slice Ao27 t126.length co27] 29 (0, 0)) (by (with_reducible repeat (first | refine blk_drewN ?_ _ | refine blk_drew ?_ | refine blk_alloc ?_ _)); refine blk_far ?_ NB114_138.out _; (with_reducible repeat (first | refine blk_drewN ?_ _ | refine blk_drew ?_ | refine blk_alloc ?_ _)); exact BK114.out) hb); have n8_ := mz (blk_below (g := gb119) (o := .cells #[.slice Ao33 t115.length co33] 29 (0, 0)) (by (with_reducible repeat (first | refine blk_drewN ?_ _ | refine blk_drew ?_ | refine blk_alloc ?_ _)); refine blk_far ?_ NB119_138.out _; (with_reducible repeat (first | refine blk_drewN ?_ _ | refine blk_drew ?_ | refine blk_alloc ?_ _)); exact BK119.out) hb); have n9_ := mz (blk_below (g := gb138) (o := .cells #[.slice Ao119 t134.length co119] 29 (0, 0)) (by (with_reducible repeat (first | refine blk_drewN ?_ _ | refine blk_drew ?_ | refine blk_alloc ?_ _)); refine blk_put (cs := #[.slice none 0 0]) ?_ 0 _ rfl; (with_reducible repeat (first | refine blk_drewN ?_ _ | refine blk_drew ?_ | refine blk_alloc ?_ _)); exact BK138.out) hb); have n10_ := mz (below_step (by repeat (first | (with_reducible first | exact HB.out | apply below_alloc | apply pw_below_drewN | apply below_drew1 | refine below_set ?_ GE101.out | refine below_set ?_ GE110.out | refine below_set ?_ GE114.out | refine below_set ?_ GE119.out | refine below_set ?_ GE138.out) | exact HB.out)) hb); clear HO_111000; clear HO_115000; clear HO_120000; clear HO133; clear HO136; clear BK101; clear BK110; clear BK114; clear BK119; clear BK138; clear HB; have HO_111000 := n0_; have HO_115000 := n1_; have HO_120000 := n2_; have HO133 := n3_; have HO136 := n4_; have BK101 := n5_; have BK110 := n6_; have BK114 := n7_; have BK119 := n8_; have BK138 := n9_; have HB := n10_; clear n0_ n1_ n2_ n3_ n4_ n5_ n6_ n7_ n8_ n9_ n10_; (try clear hb); (try clear hb2); (try clear hk); (try clear hi)))
                          go_meet
                          case rel => exact ⟨_, (true), (by first | rfl | (simp; done) | (simp [*]; done)), H', ⟨by have := HJ11.out; have := HJ60.out; first | omega | exact Nat.le_refl _⟩, ⟨by (try simp only [hl115000_60]); (with_reducible repeat (first | apply Kd.R_alloc | apply Kd.R_drewN | apply Kd.R_drew)); exact Kd.R_mono HO_111000.out (fun _ hk => ⟨hk.1.1.1, ⟨hk.1.1.2, hk.2⟩⟩)⟩, ⟨by (try simp only [hl115000_60]); (with_reducible repeat (first | apply Kd.R_alloc | apply Kd.R_drewN | apply Kd.R_drew)); exact Kd.R_mono HO_115000.out (fun _ hk => ⟨hk.1.1.1, ⟨hk.1.1.2, hk.2⟩⟩)⟩, ⟨by (try simp only [hl115000_60]); (with_reducible repeat (first | apply Kd.R_alloc | apply Kd.R_drewN | apply Kd.R_drew)); exact Kd.R_mono HO_120000.out (fun _ hk => ⟨hk.1.1.1, ⟨hk.1.1.2, hk.2⟩⟩)⟩, ⟨by (try simp only [hl115000_60]); (with_reducible repeat (first | apply Kd.R_alloc | apply Kd.R_drewN | apply Kd.R_drew)); exact Kd.R_mono HO136.out (fun _ hk => ⟨hk.1.1.1.2, ⟨hk.1.1.2, hk.1.2⟩⟩)⟩, ⟨by (try simp only [hl115000_60]); (with_reducible repeat (first | refine blk_drewN ?_ _ | refine blk_drew ?_ | refine blk_alloc ?_ _)); exact BK101.out⟩, ⟨by (try simp only [hl115000_60]); (with_reducible repeat (first | refine blk_drewN ?_ _ | refine blk_drew ?_ | refine blk_alloc ?_ _)); exact BK110.out⟩, ⟨by (try simp only [hl115000_60]); (with_reducible repeat (first | refine blk_drewN ?_ _ | refine blk_drew ?_ | refine blk_alloc ?_ _)); exact BK114.out⟩, ⟨by (try simp only [hl115000_60]); (with_reducible repeat (first | refine blk_drewN ?_ _ | refine blk_drew ?_ | refine blk_alloc ?_ _)); exact BK119.out⟩, ⟨by (try simp only [hl115000_60]); (with_reducible repeat (first | refine blk_drewN ?_ _ | refine blk_drew ?_ | refine blk_alloc ?_ _)); exact BK138.out⟩, ⟨by repeat (first | (with_reducible first | exact HB.out | apply below_alloc | apply pw_below_drewN | apply below_drew1 | refine below_set ?_ GE101.out | refine below_set ?_ GE110.out | refine below_set ?_ GE114.out | refine below_set ?_ GE119.out | refine below_set ?_ GE138.out) | exact HB.out)⟩⟩
                      case rest =>
                        clear HC104
                        try clear c1
                        try clear c2
                        try clear p2
                        try clear c3
                        try clear c4
                        try clear c4b0
                        try clear c5
                        try clear c6
                        try clear c7
                        try clear c8
                        try clear c9
                        try clear c10
                        try clear c11
                        try clear c12
                        try clear c13
                        try clear c14
                        try clear c16
                        try clear c22
                        try clear c24
                        try clear c27
                        try clear c28
                        try clear c29
                        try clear c34
                        try clear c35
                        try clear c36
                        try clear c39
                        try clear c40
                        try clear c41
                        try clear c42
                        try clear c44
                        try clear c45
                        try clear c48
                        try clear c49
                        try clear c50
                        try clear c52
                        try clear c53
                        try clear c56
                        try clear c59
                        try clear c66
                        try clear c67
                        try clear c68
                        try clear c71
                        try clear c71b0
                        try clear c73
                        try clear c74
                        try clear c75
                        try clear c76
                        try clear c78
                        try clear c79
                        try clear c82
                        try clear c83
                        try clear c84
                        try clear c86
                        try clear c87
                        try clear c90
                        try clear c93
                        try clear c93b0
                        try clear c94
                        try clear c95
                        try clear c96
                        try clear c101
                        try clear c101b0
                        try clear c101b1
                        try clear c105
                        try clear c106
                        try clear c107
                        try clear c112
                        try clear c113
                        try clear c120
                        try clear c121
                        try clear c122
                        try clear c123
                        try clear c126
                        try clear c127
                        try clear c128
                        try clear c129
                        try clear c130
                        try clear c132
                        try clear c133
                        try clear c134
                        try clear c137
                        try clear c138
                        try clear c139
                        try clear c140
                        try clear c142
                        try clear c143
                        try clear c144
                        try clear hcz108_0
                        try clear hcz110_0
                        try clear hcz114_0
                        try clear hcz124_0
                        try clear hcz131_0
                        try clear hcz135_0
                        try clear hcz141_0
                        try clear hcz145_0
                        try clear hcz14_0
                        try clear hcz16_0
                        try clear hcz23_0
                        try clear hcz24_0
                        try clear hcz30_0
                        try clear hcz37_0
                        try clear hcz43_0
                        try clear hcz46_0
                        try clear hcz51_0
                        try clear hcz54_0
                        try clear hcz69_0
                        try clear hcz6_0
                        try clear hcz77_0
                        try clear hcz80_0
                        try clear hcz85_0
                        try clear hcz88_0
                        try clear hcz97_0
                        try clear hcz99_0
                        try clear hfz108_0
                        try clear hfz110_0
                        try clear hfz114_0
                        try clear hfz124_0
                        try clear hfz131_0
                        try clear hfz135_0
                        try clear hfz141_0
                        try clear hfz145_0
                        try clear hfz14_0
                        try clear hfz16_0
                        try clear hfz23_0
                        try clear hfz24_0
                        try clear hfz30_0
                        try clear hfz37_0
                        try clear hfz43_0
                        try clear hfz46_0
                        try clear hfz51_0
                        try clear hfz54_0
                        try clear hfz69_0
                        try clear hfz6_0
                        try clear hfz77_0
                        try clear hfz80_0
                        try clear hfz85_0
                        try clear hfz88_0
                        try clear hfz97_0
                        try clear hfz99_0
                        try clear p2
                        obtain ⟨kq, x92_103, rfl, HA, HJ103, HO_111000, HO_115000, HO_120000, HO_139000, BK101, BK110, BK114, BK119, BK138, HB⟩ := hcut
                        have hl120000_103 := (Kd.R_reads' HO_120000.out).1
                        rw [hl120000_103] at HO_120000
                        (try simp only [hl120000_103])
                        (try simp only [hl120000_103] at BK101)
                        (try simp only [hl120000_103] at BK110)
                        (try simp only [hl120000_103] at BK114)
                        (try simp only [hl120000_103] at BK119)
                        (try simp only [hl120000_103] at BK138)
                        (try simp only [hl120000_103] at HO_111000)
                        (try simp only [hl120000_103] at HO_115000)
                        (try simp only [hl120000_103] at HO_139000)
                        cases kq with
                        | zero => exact absurd HA.out (by simp [laws_FnExactDropAtom.j2])
                        | succ kj103 =>
                          have H := HA.out
                          clear HA
                          simp only [laws_FnExactDropAtom.j2] at H
                          by_cases c147 : x92_103 = true
                          · subst c147
                            have H1 : (some false) = some r := by rw [if_pos rfl] at H; exact H
                            clear H
                            have H := H1
                            clear H1
                            obtain rfl := Option.some.inj H
                            go_wp2
                            go_ret
                            exact ⟨by first | rfl | (simp [errW_none, errW_some] <;> rfl) | (simp [*, errW_none, errW_some] <;> rfl), by repeat (first | (with_reducible first | exact HB.out | apply below_alloc | apply pw_below_drewN | apply below_drew1 | refine below_set ?_ GE101.out | refine below_set ?_ GE110.out | refine below_set ?_ GE114.out | refine below_set ?_ GE119.out | refine below_set ?_ GE138.out) | exact HB.out)⟩
                          · replace c147 := Bool.eq_false_iff.mpr c147
                            subst c147
                            have H1 : ((laws_heldSeq.f kj103 t129 1).bind fun t140 => (if t140 < 0 then (some false) else (if t140 = t128 then (some true) else (some false)))) = some r := by rw [if_neg (show ¬ (false = true) by decide)] at H; exact H
                            clear H
                            have H := H1
                            clear H1
                            replace H := be0_ H
                            obtain ⟨t140, A1480, H⟩ := H
                            replace H : (if t140 < 0 then (some false) else (if t140 = t128 then (some true) else (some false))) = some r := H
                            have A148 := mz A1480
                            clear A1480
                            by_cases c149 : t140 < 0
                            · rw [if_pos c149] at H
                              have c149b0 : decide (t140 < 0) = true := decide_eq_true c149
                              clear c149
                              obtain rfl := Option.some.inj H
                              have hnb150 := NB119_101.out
                              have hnc150 := NB101_119.out
                              have hnb151 := NB119_110.out
                              have hnc151 := NB110_119.out
                              have hnb152 := NB119_114.out
                              have hnc152 := NB114_119.out
                              have hnb153 := NB119_138.out
                              have hnc153 := NB138_119.out
                              have hcz154_0 : wc.cell? ⟨gb119, 0, none⟩ = some (.slice Ao33 t129.length co33) := (blk_cell BK119.out 0).trans rfl
                              have hfz154_0 := blk_frozen BK119.out 0
                              go_wp2_with (first | ((with_reducible refine gate_callee (f := 29) rfl ?_); refine goesL_ (some 95) rfl rfl Try.func29 (by kernel_rfl) rfl #[.agg #[.slice Ao33 t129.length co33], .int .i64 1] rfl (by (try simp only [List.map_toArray, List.map_cons, List.map_nil]); first | done | rfl | (simp only [List.length_drop, List.length_take]; rfl)) ?_; (with_reducible refine (laws_heldSeq.calls kj103 _ _ t129 1 t140 _ ?side1 ?side2 A148.out).mono ?_); (case side1 => repeat (first | exact (Kd.R_reads' HO_120000.out).2.2 | (with_reducible refine Kd.C_alloc ?_ _) | (with_reducible refine Kd.C_drewN ?_ _) | (with_reducible refine Kd.C_drew ?_))); (case side2 => exact (Kd.R_reads' HO_120000.out).2.1); rintro e w155 ⟨rfl, hb⟩; refine ⟨_, rfl, ?_⟩; have n0_ := mz (Kd.R_below (by (with_reducible repeat (first | apply Kd.R_alloc | apply Kd.R_drewN | apply Kd.R_drew)); exact HO_111000.out) hb); have n1_ := mz (Kd.R_below (by (with_reducible repeat (first | apply Kd.R_alloc | apply Kd.R_drewN | apply Kd.R_drew)); exact HO_115000.out) hb); have n2_ := mz (Kd.R_below (by (with_reducible repeat (first | apply Kd.R_alloc | apply Kd.R_drewN | apply Kd.R_drew)); exact HO_120000.out) hb); have n3_ := mz (Kd.R_below (by (with_reducible repeat (first | apply Kd.R_alloc | apply Kd.R_drewN | apply Kd.R_drew)); exact HO_139000.out) hb); have n4_ := mz (blk_below (g := gb101) (o := .cells #[.slice A0_0 l0_0.length c0_0] 24 (0, 0)) (by (with_reducible repeat (first | refine blk_drewN ?_ _ | refine blk_drew ?_ | refine blk_alloc ?_ _)); exact BK101.out) hb); have n5_ := mz (blk_below (g := gb110) (o := .cells #[.slice Ao21 t106.length co21] 29 (0, 0)) (by (with_reducible repeat (first | refine blk_drewN ?_ _ | refine blk_drew ?_ | refine blk_alloc ?_ _)); exact BK110.out) hb); have n6_ := mz (blk_below (g := gb114) (o := .cells #[.slice Ao27 t126.length co27] 29 (0, 0)) (by (with_reducible repeat (first | refine blk_drewN ?_ _ | refine blk_drew ?_ | refine blk_alloc ?_ _)); exact BK114.out) hb); have n7_ := mz (blk_below (g := gb119) (o := .cells #[.slice Ao33 t129.length co33] 29 (0, 0)) (by (with_reducible repeat (first | refine blk_drewN ?_ _ | refine blk_drew ?_ | refine blk_alloc ?_ _)); exact BK119.out) hb); have n8_ := mz (blk_below (g := gb138) (o := .cells #[.slice Ao119 t134.length co119] 29 (0, 0)) (by (with_reducible repeat (first | refine blk_drewN ?_ _ | refine blk_drew ?_ | refine blk_alloc ?_ _)); exact BK138.out) hb); have n9_ := mz (below_step (by repeat (first | (with_reducible first | exact HB.out | apply below_alloc | apply pw_below_drewN | apply below_drew1 | refine below_set ?_ GE101.out | refine below_set ?_ GE110.out | refine below_set ?_ GE114.out | refine below_set ?_ GE119.out | refine below_set ?_ GE138.out) | exact HB.out)) hb); clear HO_111000; clear HO_115000; clear HO_120000; clear HO_139000; clear BK101; clear BK110; clear BK114; clear BK119; clear BK138; clear HB; have HO_111000 := n0_; have HO_115000 := n1_; have HO_120000 := n2_; have HO_139000 := n3_; have BK101 := n4_; have BK110 := n5_; have BK114 := n6_; have BK119 := n7_; have BK138 := n8_; have HB := n9_; clear n0_ n1_ n2_ n3_ n4_ n5_ n6_ n7_ n8_ n9_; (try clear hb); (try clear hb2); (try clear hk); (try clear hi)))
                              go_ret
                              exact ⟨by first | rfl | (simp [errW_none, errW_some] <;> rfl) | (simp [*, errW_none, errW_some] <;> rfl), by repeat (first | (with_reducible first | exact HB.out | apply below_alloc | apply pw_below_drewN | apply below_drew1 | refine below_set ?_ GE101.out | refine below_set ?_ GE110.out | refine below_set ?_ GE114.out | refine below_set ?_ GE119.out | refine below_set ?_ GE138.out) | exact HB.out)⟩
                            · rw [if_neg c149] at H
                              have c149b0 : decide (t140 < 0) = false := decide_eq_false c149
                              clear c149
                              by_cases c156 : t140 = t128
                              · rw [if_pos c156] at H
                                have c156b0 : (t140 == t128) = true := beq_iff_eq.mpr c156
                                have c156b1 : (t140 != t128) = false := bne_eq_false_iff_eq.mpr c156
                                clear c156
                                obtain rfl := Option.some.inj H
                                have hnb157 := NB119_101.out
                                have hnc157 := NB101_119.out
                                have hnb158 := NB119_110.out
                                have hnc158 := NB110_119.out
                                have hnb159 := NB119_114.out
                                have hnc159 := NB114_119.out
                                have hnb160 := NB119_138.out
                                have hnc160 := NB138_119.out
                                have hcz161_0 : wc.cell? ⟨gb119, 0, none⟩ = some (.slice Ao33 t129.length co33) := (blk_cell BK119.out 0).trans rfl
                                have hfz161_0 := blk_frozen BK119.out 0
                                go_wp2_with (first | ((with_reducible refine gate_callee (f := 29) rfl ?_); refine goesL_ (some 95) rfl rfl Try.func29 (by kernel_rfl) rfl #[.agg #[.slice Ao33 t129.length co33], .int .i64 1] rfl (by (try simp only [List.map_toArray, List.map_cons, List.map_nil]); first | done | rfl | (simp only [List.length_drop, List.length_take]; rfl)) ?_; (with_reducible refine (laws_heldSeq.calls kj103 _ _ t129 1 t140 _ ?side1 ?side2 A148.out).mono ?_); (case side1 => repeat (first | exact (Kd.R_reads' HO_120000.out).2.2 | (with_reducible refine Kd.C_alloc ?_ _) | (with_reducible refine Kd.C_drewN ?_ _) | (with_reducible refine Kd.C_drew ?_))); (case side2 => exact (Kd.R_reads' HO_120000.out).2.1); rintro e w162 ⟨rfl, hb⟩; refine ⟨_, rfl, ?_⟩; have n0_ := mz (Kd.R_below (by (with_reducible repeat (first | apply Kd.R_alloc | apply Kd.R_drewN | apply Kd.R_drew)); exact HO_111000.out) hb); have n1_ := mz (Kd.R_below (by (with_reducible repeat (first | apply Kd.R_alloc | apply Kd.R_drewN | apply Kd.R_drew)); exact HO_115000.out) hb); have n2_ := mz (Kd.R_below (by (with_reducible repeat (first | apply Kd.R_alloc | apply Kd.R_drewN | apply Kd.R_drew)); exact HO_120000.out) hb); have n3_ := mz (Kd.R_below (by (with_reducible repeat (first | apply Kd.R_alloc | apply Kd.R_drewN | apply Kd.R_drew)); exact HO_139000.out) hb); have n4_ := mz (blk_below (g := gb101) (o := .cells #[.slice A0_0 l0_0.length c0_0] 24 (0, 0)) (by (with_reducible repeat (first | refine blk_drewN ?_ _ | refine blk_drew ?_ | refine blk_alloc ?_ _)); exact BK101.out) hb); have n5_ := mz (blk_below (g := gb110) (o := .cells #[.slice Ao21 t106.length co21] 29 (0, 0)) (by (with_reducible repeat (first | refine blk_drewN ?_ _ | refine blk_drew ?_ | refine blk_alloc ?_ _)); exact BK110.out) hb); have n6_ := mz (blk_below (g := gb114) (o := .cells #[.slice Ao27 t126.length co27] 29 (0, 0)) (by (with_reducible repeat (first | refine blk_drewN ?_ _ | refine blk_drew ?_ | refine blk_alloc ?_ _)); exact BK114.out) hb); have n7_ := mz (blk_below (g := gb119) (o := .cells #[.slice Ao33 t129.length co33] 29 (0, 0)) (by (with_reducible repeat (first | refine blk_drewN ?_ _ | refine blk_drew ?_ | refine blk_alloc ?_ _)); exact BK119.out) hb); have n8_ := mz (blk_below (g := gb138) (o := .cells #[.slice Ao119 t134.length co119] 29 (0, 0)) (by (with_reducible repeat (first | refine blk_drewN ?_ _ | refine blk_drew ?_ | refine blk_alloc ?_ _)); exact BK138.out) hb); have n9_ := mz (below_step (by repeat (first | (with_reducible first | exact HB.out | apply below_alloc | apply pw_below_drewN | apply below_drew1 | refine below_set ?_ GE101.out | refine below_set ?_ GE110.out | refine below_set ?_ GE114.out | refine below_set ?_ GE119.out | refine below_set ?_ GE138.out) | exact HB.out)) hb); clear HO_111000; clear HO_115000; clear HO_120000; clear HO_139000; clear BK101; clear BK110; clear BK114; clear BK119; clear BK138; clear HB; have HO_111000 := n0_; have HO_115000 := n1_; have HO_120000 := n2_; have HO_139000 := n3_; have BK101 := n4_; have BK110 := n5_; have BK114 := n6_; have BK119 := n7_; have BK138 := n8_; have HB := n9_; clear n0_ n1_ n2_ n3_ n4_ n5_ n6_ n7_ n8_ n9_; (try clear hb); (try clear hb2); (try clear hk); (try clear hi)))
                                go_ret
                                exact ⟨by first | rfl | (simp [errW_none, errW_some] <;> rfl) | (simp [*, errW_none, errW_some] <;> rfl), by repeat (first | (with_reducible first | exact HB.out | apply below_alloc | apply pw_below_drewN | apply below_drew1 | refine below_set ?_ GE101.out | refine below_set ?_ GE110.out | refine below_set ?_ GE114.out | refine below_set ?_ GE119.out | refine below_set ?_ GE138.out) | exact HB.out)⟩
                              · rw [if_neg c156] at H
                                have c156b0 : (t140 == t128) = false := beq_eq_false_iff_ne.mpr c156
                                have c156b1 : (t140 != t128) = true := bne_iff_ne.mpr c156
                                obtain rfl := Option.some.inj H
                                have hnb163 := NB119_101.out
                                have hnc163 := NB101_119.out
                                have hnb164 := NB119_110.out
                                have hnc164 := NB110_119.out
                                have hnb165 := NB119_114.out
                                have hnc165 := NB114_119.out
                                have hnb166 := NB119_138.out
                                have hnc166 := NB138_119.out
                                have hcz167_0 : wc.cell? ⟨gb119, 0, none⟩ = some (.slice Ao33 t129.length co33) := (blk_cell BK119.out 0).trans rfl
                                have hfz167_0 := blk_frozen BK119.out 0
                                go_wp2_with (first | ((with_reducible refine gate_callee (f := 29) rfl ?_); refine goesL_ (some 95) rfl rfl Try.func29 (by kernel_rfl) rfl #[.agg #[.slice Ao33 t129.length co33], .int .i64 1] rfl (by (try simp only [List.map_toArray, List.map_cons, List.map_nil]); first | done | rfl | (simp only [List.length_drop, List.length_take]; rfl)) ?_; (with_reducible refine (laws_heldSeq.calls kj103 _ _ t129 1 t140 _ ?side1 ?side2 A148.out).mono ?_); (case side1 => repeat (first | exact (Kd.R_reads' HO_120000.out).2.2 | (with_reducible refine Kd.C_alloc ?_ _) | (with_reducible refine Kd.C_drewN ?_ _) | (with_reducible refine Kd.C_drew ?_))); (case side2 => exact (Kd.R_reads' HO_120000.out).2.1); rintro e w168 ⟨rfl, hb⟩; refine ⟨_, rfl, ?_⟩; have n0_ := mz (Kd.R_below (by (with_reducible repeat (first | apply Kd.R_alloc | apply Kd.R_drewN | apply Kd.R_drew)); exact HO_111000.out) hb); have n1_ := mz (Kd.R_below (by (with_reducible repeat (first | apply Kd.R_alloc | apply Kd.R_drewN | apply Kd.R_drew)); exact HO_115000.out) hb); have n2_ := mz (Kd.R_below (by (with_reducible repeat (first | apply Kd.R_alloc | apply Kd.R_drewN | apply Kd.R_drew)); exact HO_120000.out) hb); have n3_ := mz (Kd.R_below (by (with_reducible repeat (first | apply Kd.R_alloc | apply Kd.R_drewN | apply Kd.R_drew)); exact HO_139000.out) hb); have n4_ := mz (blk_below (g := gb101) (o := .cells #[.slice A0_0 l0_0.length c0_0] 24 (0, 0)) (by (with_reducible repeat (first | refine blk_drewN ?_ _ | refine blk_drew ?_ | refine blk_alloc ?_ _)); exact BK101.out) hb); have n5_ := mz (blk_below (g := gb110) (o := .cells #[.slice Ao21 t106.length co21] 29 (0, 0)) (by (with_reducible repeat (first | refine blk_drewN ?_ _ | refine blk_drew ?_ | refine blk_alloc ?_ _)); exact BK110.out) hb); have n6_ := mz (blk_below (g := gb114) (o := .cells #[.slice Ao27 t126.length co27] 29 (0, 0)) (by (with_reducible repeat (first | refine blk_drewN ?_ _ | refine blk_drew ?_ | refine blk_alloc ?_ _)); exact BK114.out) hb); have n7_ := mz (blk_below (g := gb119) (o := .cells #[.slice Ao33 t129.length co33] 29 (0, 0)) (by (with_reducible repeat (first | refine blk_drewN ?_ _ | refine blk_drew ?_ | refine blk_alloc ?_ _)); exact BK119.out) hb); have n8_ := mz (blk_below (g := gb138) (o := .cells #[.slice Ao119 t134.length co119] 29 (0, 0)) (by (with_reducible repeat (first | refine blk_drewN ?_ _ | refine blk_drew ?_ | refine blk_alloc ?_ _)); exact BK138.out) hb); have n9_ := mz (below_step (by repeat (first | (with_reducible first | exact HB.out | apply below_alloc | apply pw_below_drewN | apply below_drew1 | refine below_set ?_ GE101.out | refine below_set ?_ GE110.out | refine below_set ?_ GE114.out | refine below_set ?_ GE119.out | refine below_set ?_ GE138.out) | exact HB.out)) hb); clear HO_111000; clear HO_115000; clear HO_120000; clear HO_139000; clear BK101; clear BK110; clear BK114; clear BK119; clear BK138; clear HB; have HO_111000 := n0_; have HO_115000 := n1_; have HO_120000 := n2_; have HO_139000 := n3_; have BK101 := n4_; have BK110 := n5_; have BK114 := n6_; have BK119 := n7_; have BK138 := n8_; have HB := n9_; clear n0_ n1_ n2_ n3_ n4_ n5_ n6_ n7_ n8_ n9_; (try clear hb); (try clear hb2); (try clear hk); (try clear hi)))
                                go_ret
                                exact ⟨by first | rfl | (simp [errW_none, errW_some] <;> rfl) | (simp [*, errW_none, errW_some] <;> rfl), by repeat (first | (with_reducible first | exact HB.out | apply below_alloc | apply pw_below_drewN | apply below_drew1 | refine below_set ?_ GE101.out | refine below_set ?_ GE110.out | refine below_set ?_ GE114.out | refine below_set ?_ GE119.out | refine below_set ?_ GE138.out) | exact HB.out)⟩
                    · rw [if_neg c101] at H
                      have c101b0 : (t130 == t128) = false := beq_eq_false_iff_ne.mpr c101
                      have c101b1 : (t130 != t128) = true := bne_iff_ne.mpr c101
                      obtain rfl := Option.some.inj H
                      have hnb169 := NB119_101.out
                      have hnc169 := NB101_119.out
                      have hnb170 := NB119_110.out
                      have hnc170 := NB110_119.out
                      have hnb171 := NB119_114.out
                      have hnc171 := NB114_119.out
                      have hcz172_0 : wc.cell? ⟨gb119, 0, none⟩ = some (.slice Ao33 t115.length co33) := (blk_cell BK119.out 0).trans rfl
                      have hfz172_0 := blk_frozen BK119.out 0
                      go_wp2_with (first | ((with_reducible refine gate_callee (f := 24) rfl ?_); refine goesL_ (some 68) rfl rfl Try.func24 (by kernel_rfl) rfl #[.agg #[.slice Ao33 t115.length co33], .int .i64 1] rfl (by (try simp only [List.map_toArray, List.map_cons, List.map_nil]); first | done | rfl | (simp only [List.length_drop, List.length_take]; rfl)) ?_; (with_reducible refine (laws_markSeq.calls kj60 (fun k_ => some k_ = (.slice Ao33 t115.length co33 : Value).ownBlock) (.slice Ao33 t115.length co33) t115 1 t128 t129 w _ ?side1 ?side2 A91.out).mono ?_); (case side1 => repeat (first | (with_reducible first | exact HB.out | apply below_alloc | apply pw_below_drewN | apply below_drew1 | refine below_set ?_ GE101.out | refine below_set ?_ GE110.out | refine below_set ?_ GE114.out | refine below_set ?_ GE119.out) | exact HB.out)); (case side2 => exact Kd.R_tight rfl HO_120000.out); rintro e w173 ⟨rfl, hy0, hb, hkp⟩; refine ⟨_, rfl, ?_⟩; have n0_ := mz (Kd.R_mono (ok' := fun k_ => some k_ ≠ (.slice Ao27 t126.length co27 : Value).ownBlock ∧ some k_ ≠ (.slice Ao33 t115.length co33 : Value).ownBlock) (Kd.R_keptB (HO_111000.out) hkp (fun k_ hk_ hs_ => (hk_.2) hs_)) (fun k_ hk_ => ⟨hk_.1.1, hk_.1.2⟩)); have n1_ := mz (Kd.R_mono (ok' := fun k_ => some k_ ≠ (.slice Ao21 t106.length co21 : Value).ownBlock ∧ some k_ ≠ (.slice Ao33 t115.length co33 : Value).ownBlock) (Kd.R_keptB (HO_115000.out) hkp (fun k_ hk_ hs_ => (hk_.2) hs_)) (fun k_ hk_ => ⟨hk_.1.1, hk_.1.2⟩)); have n2_ := mz (Kd.R_reok rfl hy0 (fun k_ e_ => HO_120000.out.1 k_ e_)); have n3_ := mz (blk_kept (by (with_reducible repeat (first | refine blk_drewN ?_ _ | refine blk_drew ?_ | refine blk_alloc ?_ _)); exact BK101.out) hkp (fun hs_ => (fun e_ => (Kd.R_ne HO_120000.out BK101.out (by decide)) e_) hs_)); have n4_ := mz (blk_kept (by (with_reducible repeat (first | refine blk_drewN ?_ _ | refine blk_drew ?_ | refine blk_alloc ?_ _)); exact BK110.out) hkp (fun hs_ => (fun e_ => (Kd.R_ne HO_120000.out BK110.out (by decide)) e_) hs_)); have n5_ := mz (blk_kept (by (with_reducible repeat (first | refine blk_drewN ?_ _ | refine blk_drew ?_ | refine blk_alloc ?_ _)); exact BK114.out) hkp (fun hs_ => (fun e_ => (Kd.R_ne HO_120000.out BK114.out (by decide)) e_) hs_)); have n6_ := mz (blk_kept (by (with_reducible repeat (first | refine blk_drewN ?_ _ | refine blk_drew ?_ | refine blk_alloc ?_ _)); exact BK119.out) hkp (fun hs_ => (fun e_ => (Kd.R_ne HO_120000.out BK119.out (by decide)) e_) hs_)); have n7_ := mz (hb); clear HO_111000; clear HO_115000; clear HO_120000; clear BK101; clear BK110; clear BK114; clear BK119; clear HB; have HO_111000 := n0_; have HO_115000 := n1_; have HO_120000 := n2_; have BK101 := n3_; have BK110 := n4_; have BK114 := n5_; have BK119 := n6_; have HB := n7_; clear n0_ n1_ n2_ n3_ n4_ n5_ n6_ n7_; (try clear hb); (try clear hkp); (try clear hy0); have hcz174_0 : w173.cell? ⟨gb119, 0, none⟩ = some (.slice Ao33 t115.length co33) := (blk_cell BK119.out 0).trans rfl; have hfz174_0 := blk_frozen BK119.out 0) | ((with_reducible refine gate_callee (f := 29) rfl ?_); refine goesL_ (some 71) rfl rfl Try.func29 (by kernel_rfl) rfl #[.agg #[.slice Ao33 t129.length co33], .int .i64 1] rfl (by (try simp only [List.map_toArray, List.map_cons, List.map_nil]); first | done | (rw [show t129.length = t115.length from (Kd.R_reads' HO_120000.out).1.symm] <;> rfl) | rfl | (simp only [List.length_drop, List.length_take]; rfl)) ?_; (with_reducible refine (laws_heldSeq.calls kj60 _ _ t129 1 t130 _ ?side1 ?side2 A92.out).mono ?_); (case side1 => repeat (first | exact (Kd.R_reads' HO_120000.out).2.2 | (with_reducible refine Kd.C_alloc ?_ _) | (with_reducible refine Kd.C_drewN ?_ _) | (with_reducible refine Kd.C_drew ?_))); (case side2 => rw [show t129.length = t115.length from (Kd.R_reads' HO_120000.out).1.symm]; exact (Kd.R_reads' HO_120000.out).2.1); rintro e w175 ⟨rfl, hb⟩; refine ⟨_, rfl, ?_⟩; have n0_ := mz (Kd.R_below (by (with_reducible repeat (first | apply Kd.R_alloc | apply Kd.R_drewN | apply Kd.R_drew)); exact HO_111000.out) hb); have n1_ := mz (Kd.R_below (by (with_reducible repeat (first | apply Kd.R_alloc | apply Kd.R_drewN | apply Kd.R_drew)); exact HO_115000.out) hb); have n2_ := mz (Kd.R_below (by (with_reducible repeat (first | apply Kd.R_alloc | apply Kd.R_drewN | apply Kd.R_drew)); exact HO_120000.out) hb); have n3_ := mz (blk_below (g := gb101) (o := .cells #[.slice A0_0 l0_0.length c0_0] 24 (0, 0)) (by (with_reducible repeat (first | refine blk_drewN ?_ _ | refine blk_drew ?_ | refine blk_alloc ?_ _)); exact BK101.out) hb); have n4_ := mz (blk_below (g := gb110) (o := .cells #[.slice Ao21 t106.length co21] 29 (0, 0)) (by (with_reducible repeat (first | refine blk_drewN ?_ _ | refine blk_drew ?_ | refine blk_alloc ?_ _)); exact BK110.out) hb); have n5_ := mz (blk_below (g := gb114) (o := .cells #[.slice Ao27 t126.length co27] 29 (0, 0)) (by (with_reducible repeat (first | refine blk_drewN ?_ _ | refine blk_drew ?_ | refine blk_alloc ?_ _)); exact BK114.out) hb); have n6_ := mz (blk_below (g := gb119) (o := .cells #[.slice Ao33 t115.length co33] 29 (0, 0)) (by (with_reducible repeat (first | refine blk_drewN ?_ _ | refine blk_drew ?_ | refine blk_alloc ?_ _)); exact BK119.out) hb); have n7_ := mz (below_step (by repeat (first | (with_reducible first | exact HB.out | apply below_alloc | apply pw_below_drewN | apply below_drew1 | refine below_set ?_ GE101.out | refine below_set ?_ GE110.out | refine below_set ?_ GE114.out | refine below_set ?_ GE119.out) | exact HB.out)) hb); clear HO_111000; clear HO_115000; clear HO_120000; clear BK101; clear BK110; clear BK114; clear BK119; clear HB; have HO_111000 := n0_; have HO_115000 := n1_; have HO_120000 := n2_; have BK101 := n3_; have BK110 := n4_; have BK114 := n5_; have BK119 := n6_; have HB := n7_; clear n0_ n1_ n2_ n3_ n4_ n5_ n6_ n7_; (try clear hb); (try clear hb2); (try clear hk); (try clear hi)))
                      go_ret
                      exact ⟨by first | rfl | (simp [errW_none, errW_some] <;> rfl) | (simp [*, errW_none, errW_some] <;> rfl), by repeat (first | (with_reducible first | exact HB.out | apply below_alloc | apply pw_below_drewN | apply below_drew1 | refine below_set ?_ GE101.out | refine below_set ?_ GE110.out | refine below_set ?_ GE114.out | refine below_set ?_ GE119.out) | exact HB.out)⟩
          · replace c59 := Bool.eq_false_iff.mpr c59
            subst c59
            have H1 : (some false) = some r := by rw [if_neg (show ¬ (false = true) by decide)] at H; exact H
            clear H
            have H := H1
            clear H1
            obtain rfl := Option.some.inj H
            try go_wp2
            have n0_ := mz (Kd.R_drew HO_111000.out)
            have n1_ := mz (Kd.R_drew HO_115000.out)
            have n2_ := mz (Kd.R_drew HO_120000.out)
            have n3_ := mz (blk_drew BK101.out)
            have n4_ := mz (blk_drew BK110.out)
            have n5_ := mz (blk_drew BK114.out)
            have n6_ := mz (blk_drew BK119.out)
            have n7_ := mz (below_drew1 HB.out)
            clear HO_111000
            clear HO_115000
            clear HO_120000
            clear BK101
            clear BK110
            clear BK114
            clear BK119
            clear HB
            have HO_111000 := n0_
            have HO_115000 := n1_
            have HO_120000 := n2_
            have BK101 := n3_
            have BK110 := n4_
            have BK114 := n5_
            have BK119 := n6_
            have HB := n7_
            clear n0_ n1_ n2_ n3_ n4_ n5_ n6_ n7_
            refine start_ (n := 5) (S := fun w' => w'.cell? ⟨gb114, 0, none⟩ = some (.slice Ao27 t111.length co27) ∧ w'.cell? ⟨gb101, 0, none⟩ = some (.slice A0_0 l0_0.length c0_0)) (ds := []) #[false, false, false, false, false] (by kernel_rfl) rfl rfl ⟨(blk_cell BK114.out 0).trans rfl, (blk_cell BK101.out 0).trans rfl⟩ (fun hHeld => ?_)
            generalize wc.drew = w176 at HO_111000 HO_115000 HO_120000 BK101 BK110 BK114 BK119 HB hHeld ⊢
            refine take_ (i := 0) (N := some 45) (v := ?_) (a' := ?_) #[true, false, false, false, false] rfl rfl (by kernel_rfl) (fun _ _ _ h => h) (Or.inl ⟨by rfl, ?_⟩) hHeld ?_ ?_
            rotate_left
            · rintro w' ⟨s0, s1⟩
              go_simp
              with_reducible rfl
            rotate_left
            · simp only [Act.put, List.setIfInBounds_toArray, List.set_cons_zero, List.set_cons_succ, i64_w, i32_w]
              rfl
            refine take_ (i := 1) (N := some 46) (v := ?_) (a' := ?_) #[true, true, false, false, false] rfl rfl (by kernel_rfl) (fun _ _ _ h => h) (Or.inl ⟨by rfl, ?_⟩) hHeld ?_ ?_
            rotate_left
            · rintro w' ⟨s0, s1⟩
              go_simp
              with_reducible rfl
            rotate_left
            · simp only [Act.put, List.setIfInBounds_toArray, List.set_cons_zero, List.set_cons_succ, i64_w, i32_w]
              rfl
            refine one_ (i := 2) (N := some 47) #[true, true, true, false, false] rfl rfl (by kernel_rfl) (by decide) (fun K hK => ?_)
            refine goes_ Try.func14 (by kernel_rfl) rfl #[.agg #[.slice A0_0 l0_0.length c0_0]] (by rfl) rfl rfl (by (try simp only [List.map_toArray, List.map_cons, List.map_nil]); first | done | rfl | (simp only [List.length_drop, List.length_take]; rfl)) ?_
            with_reducible refine (laws_toSeq.calls kj11 _ _ l0_0 t121 _ ?side1 ?side2 A57.out).mono ?_
            (case side1 => repeat (first | exact (Kd.C_below HR0_0.out HB.out) | (with_reducible refine Kd.C_alloc ?_ _) | (with_reducible refine Kd.C_drewN ?_ _) | (with_reducible refine Kd.C_drew ?_)))
            (case side2 => exact HC0_0.out)
            rintro e w177 ⟨v122, rfl, ho0, hb⟩
            refine ⟨_, rfl, ?_⟩
            have n0_ := mz (Kd.R_elder' (by (with_reducible repeat (first | apply Kd.R_alloc | apply Kd.R_drewN | apply Kd.R_drew)); exact HO_111000.out) (Kd.R_base ho0) hb)
            have n1_ := mz (Kd.R_elder' (by (with_reducible repeat (first | apply Kd.R_alloc | apply Kd.R_drewN | apply Kd.R_drew)); exact HO_115000.out) (Kd.R_base ho0) hb)
            have n2_ := mz (Kd.R_elder' (by (with_reducible repeat (first | apply Kd.R_alloc | apply Kd.R_drewN | apply Kd.R_drew)); exact HO_120000.out) (Kd.R_base ho0) hb)
            have n3_ := mz (Kd.R_lower (Kd.R_new' (Kd.R_new' (Kd.R_new' ho0 (Kd.R_lt (by (with_reducible repeat (first | apply Kd.R_alloc | apply Kd.R_drewN | apply Kd.R_drew)); exact HO_111000.out))) (Kd.R_lt (by (with_reducible repeat (first | apply Kd.R_alloc | apply Kd.R_drewN | apply Kd.R_drew)); exact HO_115000.out))) (Kd.R_lt (by (with_reducible repeat (first | apply Kd.R_alloc | apply Kd.R_drewN | apply Kd.R_drew)); exact HO_120000.out))) (below_size (by repeat (first | (with_reducible first | exact HB.out | apply below_alloc | apply pw_below_drewN | apply below_drew1 | refine below_set ?_ GE101.out | refine below_set ?_ GE110.out | refine below_set ?_ GE114.out | refine below_set ?_ GE119.out) | exact HB.out))))
            have n4_ := mz (blk_below (g := gb101) (o := .cells #[.slice A0_0 l0_0.length c0_0] 24 (0, 0)) (by (with_reducible repeat (first | refine blk_drewN ?_ _ | refine blk_drew ?_ | refine blk_alloc ?_ _)); exact BK101.out) hb)
            have n5_ := mz (blk_below (g := gb110) (o := .cells #[.slice Ao21 t106.length co21] 29 (0, 0)) (by (with_reducible repeat (first | refine blk_drewN ?_ _ | refine blk_drew ?_ | refine blk_alloc ?_ _)); exact BK110.out) hb)
            have n6_ := mz (blk_below (g := gb114) (o := .cells #[.slice Ao27 t111.length co27] 29 (0, 0)) (by (with_reducible repeat (first | refine blk_drewN ?_ _ | refine blk_drew ?_ | refine blk_alloc ?_ _)); exact BK114.out) hb)
            have n7_ := mz (blk_below (g := gb119) (o := .cells #[.slice Ao33 t115.length co33] 29 (0, 0)) (by (with_reducible repeat (first | refine blk_drewN ?_ _ | refine blk_drew ?_ | refine blk_alloc ?_ _)); exact BK119.out) hb)
            have n8_ := mz (below_step (by repeat (first | (with_reducible first | exact HB.out | apply below_alloc | apply pw_below_drewN | apply below_drew1 | refine below_set ?_ GE101.out | refine below_set ?_ GE110.out | refine below_set ?_ GE114.out | refine below_set ?_ GE119.out) | exact HB.out)) hb)
            clear HO_111000
            clear HO_115000
            clear HO_120000
            clear BK101
            clear BK110
            clear BK114
            clear BK119
            clear HB
            have HO_111000 := n0_
            have HO_115000 := n1_
            have HO_120000 := n2_
            have HO123 := n3_
            have BK101 := n4_
            have BK110 := n5_
            have BK114 := n6_
            have BK119 := n7_
            have HB := n8_
            clear n0_ n1_ n2_ n3_ n4_ n5_ n6_ n7_ n8_
            (try clear hb)
            (try clear hb2)
            (try clear hk)
            (try clear hi)
            (try clear ho0)
            obtain ⟨Ao178, co178, eo178⟩ := Kd.R_slice HO123.out
            (first | subst eo178 | (injection eo178 with f1_ f2_ f3_; have f4_ := f1_.symm; have f5_ := f3_.symm; clear f1_ f2_ f3_; subst f4_; subst f5_))
            refine hK.out _ _ ⟨(blk_cell BK114.out 0).trans rfl, (blk_cell BK101.out 0).trans rfl⟩ (fun hHeld => ?_)
            clear hK K
            refine norm_ (a' := ?_) ?_ ?_
            rotate_left
            · show Act.put _ (some 47) _ = _
              simp only [Act.put, List.setIfInBounds_toArray, List.set_cons_zero, List.set_cons_succ, i64_w, i32_w]
              rfl
            refine one_ (i := 3) (N := some 48) #[true, true, true, true, false] rfl rfl (by kernel_rfl) (by decide) (fun K hK => ?_)
            refine goes_ Try.func16 (by kernel_rfl) rfl #[.agg #[.slice Ao27 t111.length co27], .agg #[.slice Ao178 t121.length co178]] (by rfl) rfl rfl (by (try simp only [List.map_toArray, List.map_cons, List.map_nil]); first | done | rfl | (simp only [List.length_drop, List.length_take]; rfl)) ?_
            with_reducible refine (laws_eqSeq.calls kj11 _ _ t111 _ _ t121 false _ ?side1 ?side2 ?side3 ?side4 A58.out).mono ?_
            (case side1 => repeat (first | exact (Kd.R_reads' HO_115000.out).2.2 | (with_reducible refine Kd.C_alloc ?_ _) | (with_reducible refine Kd.C_drewN ?_ _) | (with_reducible refine Kd.C_drew ?_)))
            (case side2 => exact (Kd.R_reads' HO_115000.out).2.1)
            (case side3 => repeat (first | exact (Kd.R_reads' HO123.out).2.2 | (with_reducible refine Kd.C_alloc ?_ _) | (with_reducible refine Kd.C_drewN ?_ _) | (with_reducible refine Kd.C_drew ?_)))
            (case side4 => exact (Kd.R_reads' HO123.out).2.1)
            rintro e w179 ⟨rfl, hb⟩
            refine ⟨_, rfl, ?_⟩
            have n0_ := mz (Kd.R_below (by (with_reducible repeat (first | apply Kd.R_alloc | apply Kd.R_drewN | apply Kd.R_drew)); exact HO_111000.out) hb)
            have n1_ := mz (Kd.R_below (by (with_reducible repeat (first | apply Kd.R_alloc | apply Kd.R_drewN | apply Kd.R_drew)); exact HO_115000.out) hb)
            have n2_ := mz (Kd.R_below (by (with_reducible repeat (first | apply Kd.R_alloc | apply Kd.R_drewN | apply Kd.R_drew)); exact HO_120000.out) hb)
            have n3_ := mz (Kd.R_below (by (with_reducible repeat (first | apply Kd.R_alloc | apply Kd.R_drewN | apply Kd.R_drew)); exact HO123.out) hb)
            have n4_ := mz (blk_below (g := gb101) (o := .cells #[.slice A0_0 l0_0.length c0_0] 24 (0, 0)) (by (with_reducible repeat (first | refine blk_drewN ?_ _ | refine blk_drew ?_ | refine blk_alloc ?_ _)); exact BK101.out) hb)
            have n5_ := mz (blk_below (g := gb110) (o := .cells #[.slice Ao21 t106.length co21] 29 (0, 0)) (by (with_reducible repeat (first | refine blk_drewN ?_ _ | refine blk_drew ?_ | refine blk_alloc ?_ _)); exact BK110.out) hb)
            have n6_ := mz (blk_below (g := gb114) (o := .cells #[.slice Ao27 t111.length co27] 29 (0, 0)) (by (with_reducible repeat (first | refine blk_drewN ?_ _ | refine blk_drew ?_ | refine blk_alloc ?_ _)); exact BK114.out) hb)
            have n7_ := mz (blk_below (g := gb119) (o := .cells #[.slice Ao33 t115.length co33] 29 (0, 0)) (by (with_reducible repeat (first | refine blk_drewN ?_ _ | refine blk_drew ?_ | refine blk_alloc ?_ _)); exact BK119.out) hb)
            have n8_ := mz (below_step (by repeat (first | (with_reducible first | exact HB.out | apply below_alloc | apply pw_below_drewN | apply below_drew1 | refine below_set ?_ GE101.out | refine below_set ?_ GE110.out | refine below_set ?_ GE114.out | refine below_set ?_ GE119.out) | exact HB.out)) hb)
            clear HO_111000
            clear HO_115000
            clear HO_120000
            clear HO123
            clear BK101
            clear BK110
            clear BK114
            clear BK119
            clear HB
            have HO_111000 := n0_
            have HO_115000 := n1_
            have HO_120000 := n2_
            have HO123 := n3_
            have BK101 := n4_
            have BK110 := n5_
            have BK114 := n6_
            have BK119 := n7_
            have HB := n8_
            clear n0_ n1_ n2_ n3_ n4_ n5_ n6_ n7_ n8_
            (try clear hb)
            (try clear hb2)
            (try clear hk)
            (try clear hi)
            refine hK.out _ _ ⟨(blk_cell BK114.out 0).trans rfl, (blk_cell BK101.out 0).trans rfl⟩ (fun hHeld => ?_)
            clear hK K
            refine norm_ (a' := ?_) ?_ ?_
            rotate_left
            · show Act.put _ (some 48) _ = _
              simp only [Act.put, List.setIfInBounds_toArray, List.set_cons_zero, List.set_cons_succ, i64_w, i32_w]
              rfl
            refine pure_ (i := 4) (N := some 49) (v := ?_) (a' := ?_) #[true, true, true, true, true] rfl rfl (by kernel_rfl) (fun _ _ _ h => h) (Or.inl ⟨by rfl, ?_⟩) ?_ ?_
            rotate_left
            · intro w'
              go_simp
              with_reducible rfl
            rotate_left
            · simp only [Act.put, List.setIfInBounds_toArray, List.set_cons_zero, List.set_cons_succ, i64_w, i32_w]
              rfl
            refine done_ (by kernel_rfl) ?_
            try go_wp2
            go_ret
            exact ⟨by first | rfl | (simp [errW_none, errW_some] <;> rfl) | (simp [*, errW_none, errW_some] <;> rfl), by repeat (first | (with_reducible first | exact HB.out | apply below_alloc | apply pw_below_drewN | apply below_drew1 | refine below_set ?_ GE101.out | refine below_set ?_ GE110.out | refine below_set ?_ GE114.out | refine below_set ?_ GE119.out) | exact HB.out)⟩
end
section
attribute [local go_sem] max2_int min2_int max_two min_two max_three min_three max_four min_four
def PureFnExactDropAtom : Prop := ∀ (x0 : S24), ∀ (a1 : Int), B24 x0 → (Lit.int .i64 a1).wf = true → ∃ k, laws_FnExactDropAtom.f k x0.f0 a1 = some true
end
theorem strOfNums_one (x : Int) : (strOfNums [x]).size = 1 := by simp [strOfNums, ByteArray.size]
theorem markText_loop (m : Nat) : ∀ (n : Int) (acc : ByteArray), n.toNat < m → 0 ≤ n → n + acc.size ≤ 4611686018427387904 → ∃ s, Ev (fun k => laws_markText.l0 k n acc) s := by
  induction m with
  | zero => intro n acc h; omega
  | succ m ih =>
    intro n acc h h0 hb
    by_cases hn : n > 0
    · have e1 : Int.tmod n 10 = n % 10 := Int.tmod_eq_emod_of_nonneg h0
      have e2 : Int.tdiv n 10 = n / 10 := Int.tdiv_eq_ediv_of_nonneg h0
      have hsz : ∀ x : Int, (strOfNums [x] ++ acc).size = 1 + acc.size := fun x => by rw [ByteArray.size_append, strOfNums_one]
      obtain ⟨s, hs⟩ := ih (n / 10) (strOfNums [(wrap64 (48 + (n % 10))) % 256] ++ acc) (by omega) (by omega) (by rw [hsz]; omega)
      refine ⟨s, Ev.succ ?_⟩
      simp only [laws_markText.l0, if_pos hn, Option.bind_some, strOfNums_one, if_pos (show 1 + acc.size ≤ 9223372036854775807 by omega), e1, e2, w64 (show -9223372036854775808 ≤ n / 10 by omega) (by omega)]
      exact hs
    · refine ⟨(⟨#[109]⟩ : ByteArray) ++ acc, Ev.succ ?_⟩
      simp only [laws_markText.l0, if_neg hn, if_pos (show 1 + acc.size ≤ 9223372036854775807 by omega)]
      exact Ev.now _
theorem markText_some (n : Int) (h : n ≤ 4611686018427387904) : ∃ s, Ev (fun k => laws_markText.f k n) s := by
  unfold laws_markText.f
  by_cases hn : n ≤ 0
  · simp only [if_pos hn]; exact ⟨_, Ev.now _⟩
  · simp only [if_neg hn]
    exact markText_loop (n.toNat + 1) n ⟨#[]⟩ (by omega) (by omega) (by show n + 0 ≤ _; omega)
noncomputable def mtext (n : Int) : ByteArray := if h : n ≤ 4611686018427387904 then Classical.choose (markText_some n h) else ByteArray.empty
theorem mtext_ev (n : Int) (h : n ≤ 4611686018427387904) : Ev (fun k => laws_markText.f k n) (mtext n) := by
  unfold mtext
  rw [dif_pos h]
  exact Classical.choose_spec (markText_some n h)
section
attribute [local go_sem] max2_int min2_int max_two min_two max_three min_three max_four min_four

end
section
attribute [local go_sem] max2_int min2_int max_two min_two max_three min_three max_four min_four

end
section
attribute [local go_sem] max2_int min2_int max_two min_two max_three min_three max_four min_four

end
noncomputable def markA (n : Int) : Atom := ⟨n, n + 1, n + 2, n + 3, mtext (n + 4), Int.tmod (n + 5) 3 == 0⟩
noncomputable def amarks (n : Int) (m : Nat) : List Atom := (List.range m).map fun i => markA (n + 6 * (i : Nat))
theorem amarks_length (k : Int) (n : Nat) : (amarks k n).length = n := by simp [amarks]
theorem amarks_get (k : Int) (n i : Nat) (h : i < (amarks k n).length) : (amarks k n)[i] = markA (k + 6 * (i : Nat)) := by simp [amarks]
theorem rd_set_atom (l : List Atom) (i : Nat) (v : Atom) (h : i < l.length) : rd_T61 (l.set i v) (i : Int) = v := by
  simp [rd_T61, h]
theorem markAtomS_loop (n : Int) (h0 : 0 ≤ n) (d : Nat) : ∀ (i : Nat) (l : List Atom), i + d = l.length → n + 6 * l.length ≤ 1000000000 → l.take i = (amarks n l.length).take i →
    Ev (fun k => laws_markAtomS.l0 k l (n + 6 * (i : Int)) (i : Int)) (n + 6 * (l.length : Int), amarks n l.length) := by
  induction d with
  | zero =>
    intro i l h hb ht
    refine Ev.succ ?_
    simp only [laws_markAtomS.l0, if_neg (show ¬ ((i : Int) < (l.length : Int)) by omega)]
    refine ev_eq (Ev.now _) ?_
    rw [List.take_of_length_le (by omega), List.take_of_length_le (by rw [amarks_length]; omega)] at ht
    rw [← ht, show (i : Int) = (l.length : Int) by omega]
  | succ d ih =>
    intro i l h hb ht
    refine Ev.succ ?_
    have hi : i < l.length := by omega
    obtain ⟨m, hm⟩ : ∃ m, m = n + 6 * (i : Int) := ⟨_, rfl⟩
    have e1 : wrap64 (m + 1) = m + 1 := w64 (by omega) (by omega)
    have e2 : wrap64 (m + 1 + 1) = m + 2 := by rw [w64 (by omega) (by omega)]; omega
    have e3 : wrap64 (m + 2 + 1) = m + 3 := by rw [w64 (by omega) (by omega)]; omega
    have e4 : wrap64 (m + 3 + 1) = m + 4 := by rw [w64 (by omega) (by omega)]; omega
    have e5 : wrap64 (m + 4 + 1) = m + 5 := by rw [w64 (by omega) (by omega)]; omega
    have e6 : wrap64 (m + 5 + 1) = m + 6 := by rw [w64 (by omega) (by omega)]; omega
    rw [← hm]
    simp only [laws_markAtomS.l0, if_pos (show ((i : Int) < (l.length : Int)) by omega), if_pos (show (0 : Int) ≤ i by omega), Int.toNat_natCast, Option.bind_some, e1, e2, e3, e4, e5, e6, w64 (show -9223372036854775808 ≤ (i : Int) + 1 by omega) (by omega), rd_set_atom _ i _ hi, List.set_set]
    refine Ev.bind (mtext_ev (m + 4) (by omega)) ?_
    have := ih (i + 1) (l.set i (markA m)) (by simp; omega) (by simpa using hb) ?_
    · rw [List.length_set] at this
      rw [show m + 6 = n + 6 * ((i + 1 : Nat) : Int) by omega, show (i : Int) + 1 = ((i + 1 : Nat) : Int) by omega]
      exact this
    · rw [List.length_set, List.take_succ_eq_append_getElem (by simp; omega), List.take_succ_eq_append_getElem (by rw [amarks_length]; omega), List.take_set_of_le (by omega), ht, amarks_get]
      simp [hm]
theorem markSeq_ev (l : List Atom) (n : Int) (h0 : 0 ≤ n) (hb : n + 6 * l.length ≤ 1000000000) : Ev (fun k => laws_markSeq.f k l n) (n + 6 * (l.length : Int), amarks n l.length) := by
  have := markAtomS_loop n h0 l.length 0 l (by omega) hb (by simp)
  unfold laws_markSeq.f
  refine Ev.bind (a := (n + 6 * (l.length : Int), amarks n l.length)) ?_ (Ev.now _)
  simpa [laws_markAtomS.f] using this
theorem heldAtomS_loop (n : Int) (h0 : 0 ≤ n) (m : Nat) (hb : n + 6 * m ≤ 1000000000) (d : Nat) : ∀ (i : Nat), i + d = m →
    Ev (fun k => laws_heldAtomS.l0 k (amarks n m) (n + 6 * (i : Int)) (i : Int)) (n + 6 * (m : Int)) := by
  induction d with
  | zero =>
    intro i h
    refine Ev.succ ?_
    simp only [laws_heldAtomS.l0, amarks_length, if_neg (show ¬ ((i : Int) < (m : Int)) by omega)]
    refine ev_eq (Ev.now _) ?_
    omega
  | succ d ih =>
    intro i h
    refine Ev.succ ?_
    obtain ⟨q, hq⟩ : ∃ q, q = n + 6 * (i : Int) := ⟨_, rfl⟩
    have e1 : wrap64 (q + 1) = q + 1 := w64 (by omega) (by omega)
    have e2 : wrap64 (q + 1 + 1) = q + 2 := by rw [w64 (by omega) (by omega)]; omega
    have e3 : wrap64 (q + 2 + 1) = q + 3 := by rw [w64 (by omega) (by omega)]; omega
    have e4 : wrap64 (q + 3 + 1) = q + 4 := by rw [w64 (by omega) (by omega)]; omega
    have e5 : wrap64 (q + 4 + 1) = q + 5 := by rw [w64 (by omega) (by omega)]; omega
    have e6 : wrap64 (q + 5 + 1) = q + 6 := by rw [w64 (by omega) (by omega)]; omega
    rw [← hq]
    simp only [laws_heldAtomS.l0, amarks_length, if_pos (show ((i : Int) < (m : Int)) by omega), if_pos (show (0 : Int) ≤ i by omega), rd_atom (amarks n m) i (by rw [amarks_length]; omega), amarks_get, ← hq, markA, if_true, e1, e2, e3, e4, e5, e6, w64 (show -9223372036854775808 ≤ (i : Int) + 1 by omega) (by omega)]
    refine Ev.bind (mtext_ev (q + 4) (by omega)) ?_
    simp only [if_true, bne_self_eq_false, Bool.false_eq_true, if_false]
    rw [show q + 6 = n + 6 * ((i + 1 : Nat) : Int) by omega, show (i : Int) + 1 = ((i + 1 : Nat) : Int) by omega]
    exact ih (i + 1) (by omega)
theorem heldSeq_ev (n : Int) (m : Nat) (h0 : 0 ≤ n) (hb : n + 6 * m ≤ 1000000000) : Ev (fun k => laws_heldSeq.f k (amarks n m) n) (n + 6 * (m : Int)) := by
  have := heldAtomS_loop n h0 m hb m 0 (by omega)
  unfold laws_heldSeq.f
  refine Ev.bind (a := n + 6 * (m : Int)) (by simpa [laws_heldAtomS.f] using this) ?_
  simp only [if_neg (show ¬ (n + 6 * (m : Int) < 0) by omega)]
  exact Ev.now _
theorem specOrder_ev (l : List Atom) (hT : Tree l) : ∀ (d : Nat), d ≤ 80 → ∀ (t a : Int) (_ : ∀ j : Fin l.length, l[j].f2 = t → l[j].f3 = a → l.length ≤ j.1 + d) (out : List Int) (_ : out.length + 1000000 * (d + 1) ≤ 1000000000),
    Ev (fun k => spec_l17Order.f k l t a out) (out ++ ordL l (d + 1) t a) := by
  have hl80 := hT.len
  intro d
  induction d using Nat.strongRecOn with
  | ind d ih =>
    intro hd t a hch out ho
    have hloop : ∀ e j : Nat, j + e = l.length → Ev (fun k => spec_l17Order.l0 k l t a (out ++ ordP l d t a (backs l.length j)) ((l.length : Int) - 1 - (j : Int))) (out ++ ordL l (d + 1) t a) := by
      intro e
      induction e with
      | zero =>
        intro j h
        obtain rfl : j = l.length := by omega
        refine Ev.succ ?_
        simp only [spec_l17Order.l0, if_neg (show ¬ ((l.length : Int) - 1 - (l.length : Int) ≥ 0) by omega)]
        exact Ev.now _
      | succ e ihe =>
        intro j h
        have hi : l.length - 1 - j < l.length := by omega
        have e1 : (l.length : Int) - 1 - (j : Int) = ((l.length - 1 - j : Nat) : Int) := by omega
        have hb := backs_succ l.length j (by omega)
        have hp := ordP_snoc l d t a (backs l.length j) ⟨l.length - 1 - j, hi⟩
        rw [← hb] at hp
        have hnext := ihe (j + 1) (by omega)
        have hpl := ordP_len hT d (by omega) t a (backs l.length j)
        rw [backs_length _ _ (by omega)] at hpl
        have hc1 : l.length ≤ 80 := hl80
        have hx := hch ⟨l.length - 1 - j, hi⟩
        have hlt := hT.lt ⟨l.length - 1 - j, hi⟩
        have hpl2 : j * 6481 ≤ 80 * 6481 := Nat.mul_le_mul_right _ (by omega)
        rw [e1]
        refine Ev.succ ?_
        simp only [spec_l17Order.l0, if_pos (show (((l.length - 1 - j : Nat) : Int) ≥ 0) by omega), if_pos (show (0 : Int) ≤ ((l.length - 1 - j : Nat) : Int) by omega), if_pos (show (((l.length - 1 - j : Nat) : Int) < (l.length : Int)) by omega), rd_atom l (l.length - 1 - j) hi, w64 (n := ((l.length - 1 - j : Nat) : Int) - 1) (by omega) (by omega)]
        rw [show (((l.length - 1 - j : Nat) : Int) - 1) = (l.length : Int) - 1 - ((j + 1 : Nat) : Int) by omega]
        rw [hp] at hnext
        simp only [Fin.getElem_fin] at hnext hx hlt hp
        by_cases c1 : (l[l.length - 1 - j]).f2 = t
        · by_cases c2 : (l[l.length - 1 - j]).f3 = a
          · have hcm : ((l[l.length - 1 - j]).f2 == t && ((l[l.length - 1 - j]).f3 == a)) = true := by simp [c1, c2]
            have h0 := hx c1 c2
            obtain ⟨m, rfl⟩ : ∃ m, d = m + 1 := ⟨d - 1, by omega⟩
            rw [hcm, if_pos rfl] at hnext
            simp only [if_pos c1, if_pos c2]
            have hlen : (out ++ ordP l (m + 1) t a (backs l.length j)).length ≤ out.length + 518480 := by rw [List.length_append]; omega
            have hb2 := ord_bound (m := m) ho hlen
            simp only [if_pos (show (out ++ ordP l (m + 1) t a (backs l.length j)).length < 17592186044416 by omega)]
            refine Ev.bind (ih m (by omega) (by omega) (l[l.length - 1 - j]).f0 (l[l.length - 1 - j]).f1 (fun q h1 h2 => ?_) (out ++ ordP l (m + 1) t a (backs l.length j) ++ [((l.length - 1 - j : Nat) : Int)]) (by rw [List.length_append (bs := [_])]; simpa using hb2)) ?_
            · have := hlt q h1 h2
              omega
            · refine ev_eq ?_ rfl
              have e9 : out ++ ordP l (m + 1) t a (backs l.length j) ++ [((l.length - 1 - j : Nat) : Int)] ++ ordL l (m + 1) (l[l.length - 1 - j]).f0 (l[l.length - 1 - j]).f1 = out ++ (ordP l (m + 1) t a (backs l.length j) ++ ((l.length - 1 - j : Nat) : Int) :: ordL l (m + 1) (l[l.length - 1 - j]).f0 (l[l.length - 1 - j]).f1) := by simp
              rw [e9]
              exact hnext
          · have hcm : ((l[l.length - 1 - j]).f2 == t && ((l[l.length - 1 - j]).f3 == a)) = false := by simp [c2]
            rw [hcm, if_neg (by simp), List.append_nil] at hnext
            simp only [if_pos c1, if_neg c2]
            exact hnext
        · have hcm : ((l[l.length - 1 - j]).f2 == t && ((l[l.length - 1 - j]).f3 == a)) = false := by simp [c1]
          rw [hcm, if_neg (by simp), List.append_nil] at hnext
          simp only [if_neg c1]
          exact hnext
    have h0 := hloop l.length 0 (by omega)
    refine Ev.succ ?_
    simp only [spec_l17Order.f, w64 (n := (l.length : Int) - 1) (by omega) (by omega)]
    simpa [backs_nil, ordP] using h0
theorem specOrder_top (l : List Atom) (hT : Tree l) : Ev (fun k => spec_l17Order.f k l 0 0 []) (ordT l) := by
  have := specOrder_ev l hT 80 (Nat.le_refl _) 0 0 (fun j _ _ => by have := hT.len; omega) [] (by simp)
  simpa [ordT] using this
theorem ordT_short (l : List Atom) (hT : Tree l) : (ordT l).length ≤ 6480 := hT.short 81 0 0 (Nat.le_refl _)
section
attribute [local go_sem] max2_int min2_int max_two min_two max_three min_three max_four min_four

end
theorem rd_ints (l : List Int) (i : Nat) (h : i < l.length) : rd l (i : Int) = l[i] := by
  simp [rd, List.getD_eq_getElem?_getD, h]
theorem ordT_in (l : List Atom) : ∀ i ∈ ordT l, ∃ j : Nat, j < l.length ∧ i = (j : Int) := by
  intro i hi
  obtain ⟨zs, hz⟩ := ordL_fin l 81 0 0
  have h1 : i ∈ ordL l 81 0 0 := hi
  rw [hz] at h1
  obtain ⟨z, _, rfl⟩ := List.mem_map.1 h1
  exact ⟨z.1, z.2, rfl⟩
theorem specShown_loop (l : List Atom) (hT : Tree l) (d : Nat) : ∀ (i : Nat) (out : List Int), i + d = (ordT l).length → out.length ≤ i →
    Ev (fun k => spec_l17Shown.l0 k out (ordT l) ((ordT l).length : Int) (i : Int) l) (out ++ ((ordT l).drop i).filter (shownB l)) := by
  have hl := ordT_short l hT
  induction d with
  | zero =>
    intro i out h ho
    refine Ev.succ ?_
    simp only [spec_l17Shown.l0, if_neg (show ¬ ((i : Int) < ((ordT l).length : Int)) by omega)]
    refine ev_eq (Ev.now _) ?_
    rw [List.drop_eq_nil_of_le (by omega)]; simp
  | succ d ih =>
    intro i out h ho
    have hi : i < (ordT l).length := by omega
    obtain ⟨j, hj, ej⟩ := ordT_in l _ (List.getElem_mem hi)
    have e : (ordT l).drop i = (j : Int) :: (ordT l).drop (i + 1) := by rw [List.drop_eq_getElem_cons hi, ej]
    refine Ev.succ ?_
    simp only [spec_l17Shown.l0, if_pos (show ((i : Int) < ((ordT l).length : Int)) by omega), if_pos (show (0 : Int) ≤ i by omega), rd_ints (ordT l) i hi, ej, if_pos (show (0 : Int) ≤ (j : Int) by omega), if_pos (show (j : Int) < (l.length : Int) by omega), w64 (show -9223372036854775808 ≤ (i : Int) + 1 by omega) (by omega)]
    rw [e, List.filter_cons]
    have hs : shownB l (j : Int) = !(rd_T61 l (j : Int)).f5 := rfl
    rw [hs]
    cases (rd_T61 l (j : Int)).f5 with
    | true =>
      simp only [if_true, Bool.not_true, Bool.false_eq_true, if_false]
      exact ih (i + 1) out (by omega) (by omega)
    | false =>
      simp only [Bool.false_eq_true, if_false, Bool.not_false, if_true, if_pos (show out.length < 17592186044416 by omega)]
      have := ih (i + 1) (out ++ [(j : Int)]) (by omega) (by simp; omega)
      simpa using this
theorem specShown_ev (l : List Atom) (hT : Tree l) : Ev (fun k => spec_l17Shown.f k l) (shownL l) := by
  unfold spec_l17Shown.f
  refine Ev.bind (specOrder_top l hT) ?_
  have := specShown_loop l hT (ordT l).length 0 [] (by omega) (by simp)
  simpa [shownL] using this
theorem shown_at (l : List Atom) (a : Int) (h0 : 0 ≤ a) (h1 : a < ((shownL l).length : Int)) : ∃ j : Nat, j < l.length ∧ rd (shownL l) a = (j : Int) := by
  have hk : a.toNat < (shownL l).length := by omega
  obtain ⟨j, hj, ej⟩ := shownL_in l _ (List.getElem_mem hk)
  refine ⟨j, hj, ?_⟩
  have e1 : a = ((a.toNat : Nat) : Int) := by omega
  rw [e1, rd_ints (shownL l) a.toNat hk, ej]
theorem specDropAtom_ev (l : List Atom) (a : Int) (hl : l.length ≤ 1048576) (hs : sizedA l = true) : Ev (fun k => spec_DropAtom.f k l a) (dropV l a) := by
  unfold spec_DropAtom.f dropV
  refine Ev.bind (specSeq_ev l (by omega) hs) ?_
  cases c : goodS l with
  | false => simp only [Bool.false_eq_true, if_false]; exact Ev.now _
  | true =>
    simp only [if_true]
    have hT := (tree_of_good c).1
    have hsl := shownL_len l hT
    refine Ev.bind (specShown_ev l hT) ?_
    simp only [l1In_val, Option.bind_some, w64 (n := ((shownL l).length : Int) - 1) (by omega) (by omega)]
    by_cases h : 0 ≤ a ∧ a < ((shownL l).length : Int)
    · obtain ⟨j, hj, ej⟩ := shown_at l a h.1 h.2
      simp only [decide_eq_true h.1, decide_eq_true (show a ≤ ((shownL l).length : Int) - 1 by omega), Bool.and_self, if_true, List.nil_append, List.length_nil, if_pos (show 0 + l.length < 2513169434916 by omega), Option.bind_some, if_pos h.1, if_pos h.2, ej, if_pos (show (0 : Int) ≤ (j : Int) by omega), if_pos (show (j : Int) < (l.length : Int) by omega), if_pos h]
      exact Ev.now _
    · have hc : (decide (0 ≤ a) && decide (a ≤ ((shownL l).length : Int) - 1)) = false := by
        rw [Bool.and_eq_false_iff]
        by_cases h1 : 0 ≤ a
        · right; exact decide_eq_false (by omega)
        · left; exact decide_eq_false h1
      simp only [hc, Bool.false_eq_true, if_false, if_neg h]
      exact Ev.now _
theorem implDropAtom_val (l : List Atom) (a : Int) (hs : sizedA l = true) : impl_DropAtom.f l a = some (dropV l a) := by
  unfold impl_DropAtom.f
  rw [if_pos hs]
theorem dropV_short (l : List Atom) (a : Int) : (dropV l a).1.length ≤ l.length := by
  unfold dropV
  split
  · split
    · simp
    · simp
  · simp
end Go.Proofs.Ytaofjlelclbioaa.X
namespace Go.Proofs.Ytaofjlelclbioaa.Pure
open Go.RowKit Go.Proofs.Ytaofjlelclbioaa.X Go.Proofs.YtaofjlelclbioaaW.PrintWords Go.Proofs.YtaofjlelclbioaaW.PrintLast
theorem FnExactDropAtom : PureFnExactDropAtom := by
  intro x a hB _
  refine Ev.rounds ?_
  unfold laws_FnExactDropAtom.f
  obtain ⟨hm, hA⟩ := hB
  obtain ⟨r, hr, _, hg⟩ := szSeq_ev x.f0 hm (fun e he => (hA e he).2.2.2.2.1) 1048576 (by omega) (by omega)
  refine Ev.bind hr ?_
  by_cases h : r < 0
  · simp only [if_pos h]; exact Ev.now _
  · simp only [if_neg h]
    have g := hg (by omega)
    have ht := toSeq_ev x.f0 g
    have hs := seqOf_sized x.f0 hA
    have hlen : (seqOf x.f0).length ≤ 1048576 := by rw [seqOf_length]; exact g
    have hv := implDropAtom_val (seqOf x.f0) a hs
    have hsh := Nat.le_trans (dropV_short (seqOf x.f0) a) hlen
    have hsp := specDropAtom_ev (seqOf x.f0) a hlen hs
    generalize dropV (seqOf x.f0) a = v at hv hsh hsp
    obtain ⟨v1, v2⟩ := v
    simp only at hsh
    refine Ev.bind ht ?_
    refine Ev.bind hsp ?_
    refine Ev.bind ht ?_
    simp only [hv, Option.bind_some]
    refine Ev.bind (eqSeq_ev v1 hsh) ?_
    simp only [if_true, bne_self_eq_false]
    refine Ev.succ ?_
    simp only [laws_FnExactDropAtom.j0, Bool.false_eq_true, if_false]
    refine Ev.bind ht ?_
    refine Ev.bind (eqSeq_ev (seqOf x.f0) hlen) ?_
    simp only [if_true]
    refine Ev.bind (markSeq_ev (seqOf x.f0) 1 (by omega) (by omega)) ?_
    simp only [if_neg (show ¬ ((1 : Int) + 6 * ((seqOf x.f0).length : Int) < 0) by omega)]
    refine Ev.bind (eqSeq_ev v1 hsh) ?_
    simp only [if_true, bne_self_eq_false]
    refine Ev.succ ?_
    simp only [laws_FnExactDropAtom.j1, Bool.false_eq_true, if_false]
    refine Ev.bind (markSeq_ev v1 1 (by omega) (by omega)) ?_
    refine Ev.bind (heldSeq_ev 1 v1.length (by omega) (by omega)) ?_
    simp only [if_neg (show ¬ ((1 : Int) + 6 * (v1.length : Int) < 0) by omega), if_true]
    refine Ev.bind ht ?_
    simp only [hv, Option.bind_some]
    refine Ev.bind (eqSeq_ev v1 hsh) ?_
    simp only [if_true, bne_self_eq_false]
    refine Ev.succ ?_
    simp only [laws_FnExactDropAtom.j2, Bool.false_eq_true, if_false]
    refine Ev.bind (heldSeq_ev 1 v1.length (by omega) (by omega)) ?_
    simp only [if_neg (show ¬ ((1 : Int) + 6 * (v1.length : Int) < 0) by omega), if_true]
    exact Ev.now _
end Go.Proofs.Ytaofjlelclbioaa.Pure
namespace Go.Proofs.Ytaofjlelclbioaa.fnExactDropAtom
open Go.ChangeShapes Go.WideShapes Go.ChangeAt Go.RowKit
open Go.ChangeMaps (open_string shut_string)
open Go.Proofs.YtaofjlelclbioaaW.PrintWords Go.Proofs.Ytaofjlelclbioaa.X
set_option linter.unusedVariables false
theorem own : ownKnob Try.prog.godebug = none := by kernel_rfl
theorem laidOut : laidOutB Try.prog = true := by kernel_rfl
set_option maxRecDepth 100000 in
theorem lifted (os : Os) (started : os.Started) (H : Type) (enc : TypeId × Value → H) :
    ReturnsInHanded {} Try.checked os 7 .any (Rows.fnExactDropAtomSpec.pre6 enc Try.prog Try.f7 Rows.fnExactDropAtomRow.domain false) (Rows.fnExactDropAtomSpec.post enc Try.prog Try.f7 false true false false) := by
  refine returnsInHanded_of_change_sized (C := Try.checked) own started (by kernel_rfl) Try.func7
    (ChangeSpec.witness6 (enc := enc) (C := Try.checked) false ⟨#[], #[.agg #[.slice none 0 0], .int .i64 0], []⟩ 8 (by kernel_rfl) (by kernel_rfl) (by kernel_rfl) (by kernel_rfl)) ?_
  intro W base args ds gs before hval0 hW hcnd hsz0 _
  have hval : ∀ (j : Nat) t v, Try.f7.params[j]? = some t → args[j]? = some v → Value.okWide Try.prog W .any base t v := hval0
  have hW' := hW
  obtain ⟨p, q, hA0, hV, rfl, hfz, hnd⟩ := hW
  have hA : DataW.TrodAll enc Try.prog W 0 (fun _ => true) true Try.f7.params.toList args.toList ds p := hA0
  rw [Try.params7] at hA hval
  obtain ⟨v0, vs0, d0, ds0, p0, q0, hargs, rfl, rfl, h0, r0⟩ := trodAll_cons hA
  obtain ⟨v1, vs1, d1, ds1, p1, q1, rfl, rfl, rfl, h1, r1⟩ := trodAll_cons r0
  obtain ⟨rfl, rfl, rfl⟩ := trodAll_nil r1
  obtain rfl : args = #[v0, v1] := by cases args; simp_all
  obtain ⟨rfl, rfl⟩ := trodVars_none hV
  have k0 := h0
  have lt0 : ∀ x ∈ p0, x.block < W.heap.size := by obtain ⟨m, hm⟩ := k0; exact DataW.trod_lt m _ _ _ hm
  obtain ⟨fuel0, hf0⟩ := h0
  obtain ⟨cs0, rfl, _⟩ := okWide_struct Try.underlying24 (hval 0 24 v0 rfl rfl)
  obtain ⟨x0, K0, b0⟩ := opens_S24 H enc W _ _ _ hf0
  obtain ⟨A0_0, c0_0, he0, hc0_0, hr0_0⟩ := k24_open K0
  obtain rfl : cs0 = #[.slice A0_0 x0.f0.length c0_0] := by cases cs0; simp_all [Value.cells]
  obtain ⟨a1, rfl, rfl, rfl, w1⟩ := open_int Try.underlying3 (hval 1 3 v1 rfl rfl) h1
  clear hA0 hval0 hsz0
  have hP : PureFnExactDropAtom := Pure.FnExactDropAtom
  obtain ⟨k, hk⟩ := hP x0 a1 b0 w1
  refine (laws_FnExactDropAtom.calls k _ _ x0.f0 a1 true W hr0_0 hc0_0 hk).mono fun e W' ⟨he, bel0⟩ => ?_
  have bel : Below W.heap.size W W' := bel0
  subst he
  exact ⟨_, rfl, _, _, _, [], _, [], hW', trodAll_mk1 (shut_bool Try.underlying4 _), (trodAll_cons_mk (Below.trod laidOut (by kernel_rfl) (of_decide_eq_true (by kernel_rfl)) k0 bel lt0) (trodAll_cons_mk (shut_int Try.underlying3 w1) trodAll_mk0)), rfl, bel.frame _, fun h => by cases h⟩
theorem over : Rows.fnExactDropAtomRow.holds Try.pinned (OpenSpec.ofChange Rows.fnExactDropAtomSpec) :=
  OpenClaim.holds_of_wide 7 Try.f7 rfl rfl rfl rfl rfl rfl rfl ⟨rfl, rfl, rfl, rfl, rfl⟩ rfl rfl rfl rfl rfl (by kernel_rfl) Try.func7 (by kernel_rfl)
    (of_decide_eq_true (by kernel_rfl)) (by unfold Func.isWrapper; first | (rw [if_pos (by decide +kernel)]; kernel_rfl) | (rw [if_neg (by decide +kernel)]; exact ⟨rfl, rfl⟩))
    (fun os started H enc _ => lifted os started H enc)
theorem proved : Rows.FnExactDropAtomSaid := over
#print axioms proved
end Go.Proofs.Ytaofjlelclbioaa.fnExactDropAtom
namespace Go.Proofs.Ytaofjlelclbioaa
theorem fnExactDropAtom_holds : Rows.FnExactDropAtomSaid := fnExactDropAtom.proved
end Go.Proofs.Ytaofjlelclbioaa
