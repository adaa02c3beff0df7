/- The law FnExactPutAtom of the program: its proof, part 7. -/
import Derived.Test.YtejilfaioooabaaMFnExactPutAtom5
import Derived.Test.YtejilfaioooabaaMFnExactPutAtom6
import Derived.Test.YtejilfaioooabaaMFnExactPutAtom2
import Derived.Test.YtejilfaioooabaaMFnExactPutAtom4
import Derived.Test.YtejilfaioooabaaRows
import Derived.WalkKit
import Derived.ProofKit
import Derived.OpenShut
import Derived.ShutString
import Derived.ChangeOld
import Derived.Below
import Derived.SizedLaws
set_option linter.unusedVariables false
set_option linter.unusedSimpArgs false
namespace Go.Proofs.Ytejilfaioooabaa.X
open Go.RowKit Go.Proofs.YtejilfaioooabaaW.PrintWords Go.Proofs.YtejilfaioooabaaW.PrintLast Go.Proofs.YtejilfaioooabaaW.PrintMore
section
attribute [local go_sem] max2_int min2_int max_two min_two max_three min_three max_four min_four
mutual
def laws_FnExactPutAtom.j0 : Nat → Int → Int → ByteArray → Bool → Bool → Bool → List (S50) → List (S41) → List (S41) → List (S41) → Option (Bool)
  | 0, _, _, _, _, _, _, _, _, _, _ => none
  | k + 1, x1, x2, x3, x11, x14, x55, x9c, x9a, x9b, x9d => if x55 = true then (some false) else ((laws_toSeq.f k x9c).bind fun t121 => ((laws_eqSeq.f k x9b t121).bind fun t124 => (if t124 = true then ((laws_markSeq.f k x9b 1).bind fun bt125 => (if bt125.1 < 0 then (laws_FnExactPutAtom.j1 k x1 x2 x3 x11 true x9c x9a x9d) else ((laws_eqSeq.f k x9d x9a).bind fun t127 => (if t127 = true then (laws_FnExactPutAtom.j1 k x1 x2 x3 x11 (x14 != x11) x9c x9a x9d) else (laws_FnExactPutAtom.j1 k x1 x2 x3 x11 true x9c x9a x9d))))) else (some false))))
def laws_FnExactPutAtom.j1 : Nat → Int → Int → ByteArray → Bool → Bool → List (S50) → List (S41) → List (S41) → Option (Bool)
  | 0, _, _, _, _, _, _, _, _ => none
  | k + 1, x1, x2, x3, x11, x76, x9c, x9a, x9d => if x76 = true then (some false) else ((laws_markSeq.f k x9d 1).bind fun bt128 => ((laws_heldSeq.f k bt128.2 1).bind fun t130 => (if t130 < 0 then (some false) else (if t130 = bt128.1 then ((laws_toSeq.f k x9c).bind fun t131 => ((impl_PutAtom.f t131 x1 x2 x3).bind fun bt134 => ((laws_eqSeq.f k bt134.1 x9a).bind fun t139 => (if t139 = true then (laws_FnExactPutAtom.j2 k bt128.1 (bt134.2 != x11) bt128.2) else (laws_FnExactPutAtom.j2 k bt128.1 true bt128.2))))) else (some false)))))
def laws_FnExactPutAtom.j2 : Nat → Int → Bool → List (S41) → Option (Bool)
  | 0, _, _, _ => none
  | k + 1, x16, x105, x9d => if x105 = true then (some false) else ((laws_heldSeq.f k x9d 1).bind fun t140 => (if t140 < 0 then (some false) else (if t140 = x16 then (some true) else (some false))))
end
def laws_FnExactPutAtom.f (k : Nat) (l0_0 : List (S50)) (a1 : Int) (a2 : Int) (a3 : ByteArray) : Option (Bool) := if (a3.size : Int) > 1048576 then (some true) else ((laws_szSeq.f k l0_0 1048576).bind fun t102 => (if t102 < 0 then (some true) else ((laws_toSeq.f k l0_0).bind fun t103 => ((spec_PutAtom.f t103 a1 a2 a3).bind fun bt106 => ((laws_toSeq.f k l0_0).bind fun t111 => ((impl_PutAtom.f t111 a1 a2 a3).bind fun bt115 => ((laws_eqSeq.f k bt115.1 bt106.1).bind fun t120 => (if t120 = true then (laws_FnExactPutAtom.j0 k a1 a2 a3 bt106.2 bt115.2 (bt115.2 != bt106.2) l0_0 bt106.1 t111 bt115.1) else (laws_FnExactPutAtom.j0 k a1 a2 a3 bt106.2 bt115.2 true l0_0 bt106.1 t111 bt115.1)))))))))
set_option maxHeartbeats 8000000 in
set_option maxRecDepth 100000 in
theorem laws_FnExactPutAtom.calls (k : Nat) (A0_0 : Option Addr) (c0_0 : Nat) (l0_0 : List (S50)) (a1 : Int) (a2 : Int) (a3 : ByteArray) (r : Bool) (w : World) (hr0_0 : Kd.C k50 w A0_0 l0_0.length l0_0) (hc0_0 : l0_0.length ≤ c0_0) (h : laws_FnExactPutAtom.f k l0_0 a1 a2 a3 = some r) :
    Calls Try.prog 3 #[.agg #[.slice A0_0 l0_0.length c0_0], .int .i64 a1, .int .i64 a2, .string a3] w fun e w' => e = .returned (.bool r) ∧ Below w.heap.size w w' := by
  have hu24 := Try.underlying24
  have hu28 := Try.underlying28
  have HR0_0 := mz hr0_0
  have HC0_0 := mz hc0_0
  clear hr0_0 hc0_0
  have HB := mz (Below.refl w.heap.size w)
  have H : (if (a3.size : Int) > 1048576 then (some true) else ((laws_szSeq.f k l0_0 1048576).bind fun t102 => (if t102 < 0 then (some true) else ((laws_toSeq.f k l0_0).bind fun t103 => ((spec_PutAtom.f t103 a1 a2 a3).bind fun bt106 => ((laws_toSeq.f k l0_0).bind fun t111 => ((impl_PutAtom.f t111 a1 a2 a3).bind fun bt115 => ((laws_eqSeq.f k bt115.1 bt106.1).bind fun t120 => (if t120 = true then (laws_FnExactPutAtom.j0 k a1 a2 a3 bt106.2 bt115.2 (bt115.2 != bt106.2) l0_0 bt106.1 t111 bt115.1) else (laws_FnExactPutAtom.j0 k a1 a2 a3 bt106.2 bt115.2 true l0_0 bt106.1 t111 bt115.1)))))))))) = some r := h
  clear h
  by_cases c5 : (a3.size : Int) > 1048576
  · rw [if_pos c5] at H
    have c5b0 : decide (1048576 < (a3.size : Int)) = true := decide_eq_true c5
    have c5b1 : decide (1048576 < a3.size) = true := decide_eq_true (by omega)
    clear c5
    obtain rfl := Option.some.inj H
    go_enter Try.func3, Try.ntmps3
    go_wp2_with (first | ((with_reducible refine gate_dst (N := 4) rfl ?_); refine box_event ?hg (N := 4) ?hd (cs := #[.slice A0_0 l0_0.length c0_0]) (t := 24) ?hr ?_; (case hd => rfl); (case hg => rfl); (case hr => first | (go_simp; done) | (go_simp; rfl)); intro gb101 hg w6 hbox hb; have n0_ := mz (below_step (by repeat (first | (with_reducible first | exact HB.out | apply below_alloc | apply pw_below_drewN | apply below_drew1) | exact HB.out)) hb); have n1_ := mz (hbox); have n2_ := mz ((by rw [hg]; exact (below_size (by repeat (first | (with_reducible first | exact HB.out | apply below_alloc | apply pw_below_drewN | apply below_drew1) | exact HB.out))) : w.heap.size ≤ gb101)); have n3_ := mz ((by rw [hg]; exact (below_size (by repeat (first | (with_reducible first | exact HB.out | apply below_alloc | apply pw_below_drewN | apply below_drew1) | exact HB.out))) : w.heap.size ≤ gb101)); clear HB; have HB := n0_; have BK101 := n1_; have GW101 := n2_; have GE101 := n3_; clear n0_ n1_ n2_ n3_; clear hb hbox hg))
    go_ret
    exact ⟨by first | rfl | (simp [errW_none, errW_some] <;> rfl) | (simp [*, errW_none, errW_some] <;> rfl), by repeat (first | (with_reducible first | exact HB.out | apply below_alloc | apply pw_below_drewN | apply below_drew1 | refine below_set ?_ GE101.out) | exact HB.out)⟩
  · rw [if_neg c5] at H
    have c5b0 : decide (1048576 < (a3.size : Int)) = false := decide_eq_false c5
    have c5b1 : decide (1048576 < a3.size) = false := decide_eq_false (by omega)
    clear c5
    replace H := be0_ H
    obtain ⟨t102, A70, H⟩ := H
    replace H : (if t102 < 0 then (some true) else ((laws_toSeq.f k l0_0).bind fun t103 => ((spec_PutAtom.f t103 a1 a2 a3).bind fun bt106 => ((laws_toSeq.f k l0_0).bind fun t111 => ((impl_PutAtom.f t111 a1 a2 a3).bind fun bt115 => ((laws_eqSeq.f k bt115.1 bt106.1).bind fun t120 => (if t120 = true then (laws_FnExactPutAtom.j0 k a1 a2 a3 bt106.2 bt115.2 (bt115.2 != bt106.2) l0_0 bt106.1 t111 bt115.1) else (laws_FnExactPutAtom.j0 k a1 a2 a3 bt106.2 bt115.2 true l0_0 bt106.1 t111 bt115.1)))))))) = some r := H
    have A7 := mz A70
    clear A70
    by_cases c8 : t102 < 0
    · rw [if_pos c8] at H
      have c8b0 : decide (t102 < 0) = true := decide_eq_true c8
      clear c8
      obtain rfl := Option.some.inj H
      go_enter Try.func3, Try.ntmps3
      go_wp2_with (first | ((with_reducible refine gate_dst (N := 4) rfl ?_); refine box_event ?hg (N := 4) ?hd (cs := #[.slice A0_0 l0_0.length c0_0]) (t := 24) ?hr ?_; (case hd => rfl); (case hg => rfl); (case hr => first | (go_simp; done) | (go_simp; rfl)); intro gb101 hg w9 hbox hb; have n0_ := mz (below_step (by repeat (first | (with_reducible first | exact HB.out | apply below_alloc | apply pw_below_drewN | apply below_drew1) | exact HB.out)) hb); have n1_ := mz (hbox); have n2_ := mz ((by rw [hg]; exact (below_size (by repeat (first | (with_reducible first | exact HB.out | apply below_alloc | apply pw_below_drewN | apply below_drew1) | exact HB.out))) : w.heap.size ≤ gb101)); have n3_ := mz ((by rw [hg]; exact (below_size (by repeat (first | (with_reducible first | exact HB.out | apply below_alloc | apply pw_below_drewN | apply below_drew1) | exact HB.out))) : w.heap.size ≤ gb101)); clear HB; have HB := n0_; have BK101 := n1_; have GW101 := n2_; have GE101 := n3_; clear n0_ n1_ n2_ n3_; clear hb hbox hg; have hcz10_0 : w9.cell? ⟨gb101, 0, none⟩ = some (.slice A0_0 l0_0.length c0_0) := (blk_cell BK101.out 0).trans rfl; have hfz10_0 := blk_frozen BK101.out 0) | ((with_reducible refine gate_callee (f := 4) rfl ?_); refine goesL_ (some 25) rfl rfl Try.func4 (by kernel_rfl) rfl #[.agg #[.slice A0_0 l0_0.length c0_0], .int .i64 1048576] rfl (by (try simp only [List.map_toArray, List.map_cons, List.map_nil]); first | done | rfl | (simp only [List.length_drop, List.length_take]; rfl)) ?_; (with_reducible refine (laws_szSeq.calls k _ _ l0_0 1048576 t102 _ ?side1 ?side2 A7.out).mono ?_); (case side1 => repeat (first | exact (Kd.C_below HR0_0.out HB.out) | (with_reducible refine Kd.C_alloc ?_ _) | (with_reducible refine Kd.C_drewN ?_ _) | (with_reducible refine Kd.C_drew ?_))); (case side2 => exact HC0_0.out); rintro e w11 ⟨rfl, hb⟩; refine ⟨_, rfl, ?_⟩; have n0_ := mz (blk_below (g := gb101) (o := .cells #[.slice A0_0 l0_0.length c0_0] 24 (0, 0)) (by (with_reducible repeat (first | refine blk_drewN ?_ _ | refine blk_drew ?_ | refine blk_alloc ?_ _)); exact BK101.out) hb); have n1_ := mz (below_step (by repeat (first | (with_reducible first | exact HB.out | apply below_alloc | apply pw_below_drewN | apply below_drew1 | refine below_set ?_ GE101.out) | exact HB.out)) hb); clear BK101; clear HB; have BK101 := n0_; have HB := n1_; clear n0_ n1_; (try clear hb); (try clear hb2); (try clear hk); (try clear hi)))
      go_ret
      exact ⟨by first | rfl | (simp [errW_none, errW_some] <;> rfl) | (simp [*, errW_none, errW_some] <;> rfl), by repeat (first | (with_reducible first | exact HB.out | apply below_alloc | apply pw_below_drewN | apply below_drew1 | refine below_set ?_ GE101.out) | exact HB.out)⟩
    · rw [if_neg c8] at H
      have c8b0 : decide (t102 < 0) = false := decide_eq_false c8
      clear c8
      replace H := be0_ H
      obtain ⟨t103, A120, H⟩ := H
      replace H : ((spec_PutAtom.f t103 a1 a2 a3).bind fun bt106 => ((laws_toSeq.f k l0_0).bind fun t111 => ((impl_PutAtom.f t111 a1 a2 a3).bind fun bt115 => ((laws_eqSeq.f k bt115.1 bt106.1).bind fun t120 => (if t120 = true then (laws_FnExactPutAtom.j0 k a1 a2 a3 bt106.2 bt115.2 (bt115.2 != bt106.2) l0_0 bt106.1 t111 bt115.1) else (laws_FnExactPutAtom.j0 k a1 a2 a3 bt106.2 bt115.2 true l0_0 bt106.1 t111 bt115.1)))))) = some r := H
      have A12 := mz A120
      clear A120
      replace H := be0_ H
      obtain ⟨⟨t106, t109⟩, A130, H⟩ := H
      replace H : ((laws_toSeq.f k l0_0).bind fun t111 => ((impl_PutAtom.f t111 a1 a2 a3).bind fun bt115 => ((laws_eqSeq.f k bt115.1 t106).bind fun t120 => (if t120 = true then (laws_FnExactPutAtom.j0 k a1 a2 a3 t109 bt115.2 (bt115.2 != t109) l0_0 t106 t111 bt115.1) else (laws_FnExactPutAtom.j0 k a1 a2 a3 t109 bt115.2 true l0_0 t106 t111 bt115.1))))) = some r := H
      have A13 := mz A130
      clear A130
      replace H := be0_ H
      obtain ⟨t111, A140, H⟩ := H
      replace H : ((impl_PutAtom.f t111 a1 a2 a3).bind fun bt115 => ((laws_eqSeq.f k bt115.1 t106).bind fun t120 => (if t120 = true then (laws_FnExactPutAtom.j0 k a1 a2 a3 t109 bt115.2 (bt115.2 != t109) l0_0 t106 t111 bt115.1) else (laws_FnExactPutAtom.j0 k a1 a2 a3 t109 bt115.2 true l0_0 t106 t111 bt115.1)))) = some r := H
      have A14 := mz A140
      clear A140
      replace H := be0_ H
      obtain ⟨⟨t115, t118⟩, A150, H⟩ := H
      replace H : ((laws_eqSeq.f k t115 t106).bind fun t120 => (if t120 = true then (laws_FnExactPutAtom.j0 k a1 a2 a3 t109 t118 (t118 != t109) l0_0 t106 t111 t115) else (laws_FnExactPutAtom.j0 k a1 a2 a3 t109 t118 true l0_0 t106 t111 t115))) = some r := H
      have A15 := mz A150
      clear A150
      have HC16 := mz H
      clear H
      go_enter Try.func3, Try.ntmps3
      go_upto_region 10 with (first | ((with_reducible refine gate_dst (N := 4) rfl ?_); refine box_event ?hg (N := 4) ?hd (cs := #[.slice A0_0 l0_0.length c0_0]) (t := 24) ?hr ?_; (case hd => rfl); (case hg => rfl); (case hr => first | (go_simp; done) | (go_simp; rfl)); intro gb101 hg w17 hbox hb; have n0_ := mz (below_step (by repeat (first | (with_reducible first | exact HB.out | apply below_alloc | apply pw_below_drewN | apply below_drew1) | exact HB.out)) hb); have n1_ := mz (hbox); have n2_ := mz ((by rw [hg]; exact (below_size (by repeat (first | (with_reducible first | exact HB.out | apply below_alloc | apply pw_below_drewN | apply below_drew1) | exact HB.out))) : w.heap.size ≤ gb101)); have n3_ := mz ((by rw [hg]; exact (below_size (by repeat (first | (with_reducible first | exact HB.out | apply below_alloc | apply pw_below_drewN | apply below_drew1) | exact HB.out))) : w.heap.size ≤ gb101)); clear HB; have HB := n0_; have BK101 := n1_; have GW101 := n2_; have GE101 := n3_; clear n0_ n1_ n2_ n3_; clear hb hbox hg; have hcz18_0 : w17.cell? ⟨gb101, 0, none⟩ = some (.slice A0_0 l0_0.length c0_0) := (blk_cell BK101.out 0).trans rfl; have hfz18_0 := blk_frozen BK101.out 0) | ((with_reducible refine gate_callee (f := 4) rfl ?_); refine goesL_ (some 25) rfl rfl Try.func4 (by kernel_rfl) rfl #[.agg #[.slice A0_0 l0_0.length c0_0], .int .i64 1048576] rfl (by (try simp only [List.map_toArray, List.map_cons, List.map_nil]); first | done | rfl | (simp only [List.length_drop, List.length_take]; rfl)) ?_; (with_reducible refine (laws_szSeq.calls k _ _ l0_0 1048576 t102 _ ?side1 ?side2 A7.out).mono ?_); (case side1 => repeat (first | exact (Kd.C_below HR0_0.out HB.out) | (with_reducible refine Kd.C_alloc ?_ _) | (with_reducible refine Kd.C_drewN ?_ _) | (with_reducible refine Kd.C_drew ?_))); (case side2 => exact HC0_0.out); rintro e w19 ⟨rfl, hb⟩; refine ⟨_, rfl, ?_⟩; have n0_ := mz (blk_below (g := gb101) (o := .cells #[.slice A0_0 l0_0.length c0_0] 24 (0, 0)) (by (with_reducible repeat (first | refine blk_drewN ?_ _ | refine blk_drew ?_ | refine blk_alloc ?_ _)); exact BK101.out) hb); have n1_ := mz (below_step (by repeat (first | (with_reducible first | exact HB.out | apply below_alloc | apply pw_below_drewN | apply below_drew1 | refine below_set ?_ GE101.out) | exact HB.out)) hb); clear BK101; clear HB; have BK101 := n0_; have HB := n1_; clear n0_ n1_; (try clear hb); (try clear hb2); (try clear hk); (try clear hi); have hcz20_0 : w19.cell? ⟨gb101, 0, none⟩ = some (.slice A0_0 l0_0.length c0_0) := (blk_cell BK101.out 0).trans rfl; have hfz20_0 := blk_frozen BK101.out 0) | ((with_reducible refine gate_callee (f := 6) rfl ?_); refine goesL_ (some 30) rfl rfl Try.func6 (by kernel_rfl) rfl #[.agg #[.slice A0_0 l0_0.length c0_0]] rfl (by (try simp only [List.map_toArray, List.map_cons, List.map_nil]); first | done | rfl | (simp only [List.length_drop, List.length_take]; rfl)) ?_; (with_reducible refine (laws_toSeq.calls k _ _ l0_0 t103 _ ?side1 ?side2 A12.out).mono ?_); (case side1 => repeat (first | exact (Kd.C_below HR0_0.out HB.out) | (with_reducible refine Kd.C_alloc ?_ _) | (with_reducible refine Kd.C_drewN ?_ _) | (with_reducible refine Kd.C_drew ?_))); (case side2 => exact HC0_0.out); rintro e w21 ⟨v104, rfl, ho0, hb⟩; refine ⟨_, rfl, ?_⟩; have n0_ := mz (Kd.R_lower ho0 (below_size (by repeat (first | (with_reducible first | exact HB.out | apply below_alloc | apply pw_below_drewN | apply below_drew1 | refine below_set ?_ GE101.out) | exact HB.out)))); have n1_ := mz (blk_below (g := gb101) (o := .cells #[.slice A0_0 l0_0.length c0_0] 24 (0, 0)) (by (with_reducible repeat (first | refine blk_drewN ?_ _ | refine blk_drew ?_ | refine blk_alloc ?_ _)); exact BK101.out) hb); have n2_ := mz (below_step (by repeat (first | (with_reducible first | exact HB.out | apply below_alloc | apply pw_below_drewN | apply below_drew1 | refine below_set ?_ GE101.out) | exact HB.out)) hb); clear BK101; clear HB; have HO105 := n0_; have BK101 := n1_; have HB := n2_; clear n0_ n1_ n2_; (try clear hb); (try clear hb2); (try clear hk); (try clear hi); (try clear ho0); obtain ⟨Ao22, co22, eo22⟩ := Kd.R_slice HO105.out; subst eo22) | ((with_reducible refine gate_callee (f := 5) rfl ?_); refine goesL_ (some 34) rfl rfl Try.func5 (by kernel_rfl) rfl #[.agg #[.slice Ao22 t103.length co22], .int .i64 a1, .int .i64 a2, .string a3] rfl (by (try simp only [List.map_toArray, List.map_cons, List.map_nil]); first | done | rfl | (simp only [List.length_drop, List.length_take]; rfl)) ?_; (with_reducible refine (spec_PutAtom.calls _ _ t103 a1 a2 a3 t106 t109 _ ?side1 ?side2 A13.out).mono ?_); (case side1 => repeat (first | exact (Kd.R_reads' HO105.out).2.2 | (with_reducible refine Kd.C_alloc ?_ _) | (with_reducible refine Kd.C_drewN ?_ _) | (with_reducible refine Kd.C_drew ?_))); (case side2 => exact (Kd.R_reads' HO105.out).2.1); rintro e w23 ⟨v107, rfl, ho0, hb⟩; refine ⟨_, rfl, ?_⟩; have n0_ := mz (Kd.R_elder' (by (with_reducible repeat (first | apply Kd.R_alloc | apply Kd.R_drewN | apply Kd.R_drew)); exact HO105.out) (Kd.R_base ho0) hb); have n1_ := mz (Kd.R_lower (Kd.R_new' ho0 (Kd.R_lt (by (with_reducible repeat (first | apply Kd.R_alloc | apply Kd.R_drewN | apply Kd.R_drew)); exact HO105.out))) (below_size (by repeat (first | (with_reducible first | exact HB.out | apply below_alloc | apply pw_below_drewN | apply below_drew1 | refine below_set ?_ GE101.out) | exact HB.out)))); have n2_ := mz (blk_below (g := gb101) (o := .cells #[.slice A0_0 l0_0.length c0_0] 24 (0, 0)) (by (with_reducible repeat (first | refine blk_drewN ?_ _ | refine blk_drew ?_ | refine blk_alloc ?_ _)); exact BK101.out) hb); have n3_ := mz (below_step (by repeat (first | (with_reducible first | exact HB.out | apply below_alloc | apply pw_below_drewN | apply below_drew1 | refine below_set ?_ GE101.out) | exact HB.out)) hb); clear HO105; clear BK101; clear HB; have HO105 := n0_; have HO108 := n1_; have BK101 := n2_; have HB := n3_; clear n0_ n1_ n2_ n3_; (try clear hb); (try clear hb2); (try clear hk); (try clear hi); (try clear ho0)) | ((with_reducible refine gate_dst (N := 10) rfl ?_); refine box_event ?hg (N := 10) ?hd (cs := #[.slice none 0 0]) (t := 28) ?hr ?_; (case hd => rfl); (case hg => rfl); (case hr => first | (go_simp; done) | (go_simp; rfl)); intro gb110 hg w24 hbox hb; have n0_ := mz (Kd.R_below (by (with_reducible repeat (first | apply Kd.R_alloc | apply Kd.R_drewN | apply Kd.R_drew)); exact HO105.out) hb); have n1_ := mz (Kd.R_below (by (with_reducible repeat (first | apply Kd.R_alloc | apply Kd.R_drewN | apply Kd.R_drew)); exact HO108.out) hb); have n2_ := mz (blk_below (g := gb101) (o := .cells #[.slice A0_0 l0_0.length c0_0] 24 (0, 0)) (by (with_reducible repeat (first | refine blk_drewN ?_ _ | refine blk_drew ?_ | refine blk_alloc ?_ _)); exact BK101.out) hb); have n3_ := mz (below_step (by repeat (first | (with_reducible first | exact HB.out | apply below_alloc | apply pw_below_drewN | apply below_drew1 | refine below_set ?_ GE101.out) | exact HB.out)) hb); have n4_ := mz (hbox); have n5_ := mz ((by rw [hg]; exact (below_size (by repeat (first | (with_reducible first | exact HB.out | apply below_alloc | apply pw_below_drewN | apply below_drew1 | refine below_set ?_ GE101.out) | exact HB.out))) : w.heap.size ≤ gb110)); have n6_ := mz ((by rw [hg]; exact (below_size (by repeat (first | (with_reducible first | exact HB.out | apply below_alloc | apply pw_below_drewN | apply below_drew1 | refine below_set ?_ GE101.out) | exact HB.out))) : w.heap.size ≤ gb110)); have n7_ := mz ((by rw [hg]; exact Nat.ne_of_lt (blk_lt (g := gb101) (o := .cells #[.slice A0_0 l0_0.length c0_0] 24 (0, 0)) (by (with_reducible repeat (first | refine blk_drewN ?_ _ | refine blk_drew ?_ | refine blk_alloc ?_ _)); exact BK101.out)) : gb101 ≠ gb110)); have n8_ := mz ((by rw [hg]; exact Nat.ne_of_gt (blk_lt (g := gb101) (o := .cells #[.slice A0_0 l0_0.length c0_0] 24 (0, 0)) (by (with_reducible repeat (first | refine blk_drewN ?_ _ | refine blk_drew ?_ | refine blk_alloc ?_ _)); exact BK101.out)) : gb110 ≠ gb101)); clear HO105; clear HO108; clear BK101; clear HB; have HO105 := n0_; have HO108 := n1_; have BK101 := n2_; have HB := n3_; have BK110 := n4_; have GW110 := n5_; have GE110 := n6_; have NB101_110 := n7_; have NB110_101 := n8_; clear n0_ n1_ n2_ n3_ n4_ n5_ n6_ n7_ n8_; clear hb hbox hg; obtain ⟨Ao25, co25, eo25⟩ := Kd.R_slice HO108.out; subst eo25; have hnb26 := NB110_101.out; have hnc26 := NB101_110.out; have hcz27_0 : w24.cell? ⟨gb110, 0, none⟩ = some (.slice none 0 0) := (blk_cell BK110.out 0).trans rfl; have hfz27_0 := blk_frozen BK110.out 0; have hcz28_0 : w24.cell? ⟨gb101, 0, none⟩ = some (.slice A0_0 l0_0.length c0_0) := (blk_cell BK101.out 0).trans rfl; have hfz28_0 := blk_frozen BK101.out 0) | ((with_reducible refine gate_callee (f := 6) rfl ?_); refine goesL_ (some 38) rfl rfl Try.func6 (by kernel_rfl) rfl #[.agg #[.slice A0_0 l0_0.length c0_0]] rfl (by (try simp only [List.map_toArray, List.map_cons, List.map_nil]); first | done | rfl | (simp only [List.length_drop, List.length_take]; rfl)) ?_; (with_reducible refine (laws_toSeq.calls k _ _ l0_0 t111 _ ?side1 ?side2 A14.out).mono ?_); (case side1 => exact Kd.C_below HR0_0.out (by repeat (first | (with_reducible first | exact HB.out | apply below_alloc | apply pw_below_drewN | apply below_drew1 | refine below_set ?_ GE101.out | refine below_set ?_ GE110.out) | exact HB.out))); (case side2 => exact HC0_0.out); rintro e w29 ⟨v112, rfl, ho0, hb⟩; refine ⟨_, rfl, ?_⟩; have n0_ := mz (Kd.R_elder' (by (with_reducible repeat (first | apply Kd.R_alloc | apply Kd.R_drewN | apply Kd.R_drew)); exact (Kd.R_mono (Kd.R_far (p := ⟨gb110, 0, none⟩) (Kd.R_types HO105.out BK110.out (by decide)) (fun _ hk => hk.2) (.slice Ao25 t106.length co25)) (fun _ h_ => h_.1))) (Kd.R_base ho0) hb); have n1_ := mz (Kd.R_elder' (by (with_reducible repeat (first | apply Kd.R_alloc | apply Kd.R_drewN | apply Kd.R_drew)); exact (Kd.R_mono (Kd.R_far (p := ⟨gb110, 0, none⟩) (Kd.R_types HO108.out BK110.out (by decide)) (fun _ hk => hk.2) (.slice Ao25 t106.length co25)) (fun _ h_ => h_.1))) (Kd.R_base ho0) hb); have n2_ := mz (Kd.R_lower (Kd.R_new' (Kd.R_new' ho0 (Kd.R_lt (by (with_reducible repeat (first | apply Kd.R_alloc | apply Kd.R_drewN | apply Kd.R_drew)); exact (Kd.R_mono (Kd.R_far (p := ⟨gb110, 0, none⟩) (Kd.R_types HO105.out BK110.out (by decide)) (fun _ hk => hk.2) (.slice Ao25 t106.length co25)) (fun _ h_ => h_.1))))) (Kd.R_lt (by (with_reducible repeat (first | apply Kd.R_alloc | apply Kd.R_drewN | apply Kd.R_drew)); exact (Kd.R_mono (Kd.R_far (p := ⟨gb110, 0, none⟩) (Kd.R_types HO108.out BK110.out (by decide)) (fun _ hk => hk.2) (.slice Ao25 t106.length co25)) (fun _ h_ => h_.1))))) (below_size (by repeat (first | (with_reducible first | exact HB.out | apply below_alloc | apply pw_below_drewN | apply below_drew1 | refine below_set ?_ GE101.out | refine below_set ?_ GE110.out) | exact HB.out)))); have n3_ := mz (blk_below (g := gb101) (o := .cells #[.slice A0_0 l0_0.length c0_0] 24 (0, 0)) (by (with_reducible repeat (first | refine blk_drewN ?_ _ | refine blk_drew ?_ | refine blk_alloc ?_ _)); refine blk_far ?_ NB101_110.out _; (with_reducible repeat (first | refine blk_drewN ?_ _ | refine blk_drew ?_ | refine blk_alloc ?_ _)); exact BK101.out) hb); have n4_ := mz (blk_below (g := gb110) (o := .cells #[.slice Ao25 t106.length co25] 28 (0, 0)) (by (with_reducible repeat (first | refine blk_drewN ?_ _ | refine blk_drew ?_ | refine blk_alloc ?_ _)); refine blk_put (cs := #[.slice none 0 0]) ?_ 0 _ rfl; (with_reducible repeat (first | refine blk_drewN ?_ _ | refine blk_drew ?_ | refine blk_alloc ?_ _)); exact BK110.out) hb); have n5_ := mz (below_step (by repeat (first | (with_reducible first | exact HB.out | apply below_alloc | apply pw_below_drewN | apply below_drew1 | refine below_set ?_ GE101.out | refine below_set ?_ GE110.out) | exact HB.out)) hb); clear HO105; clear HO108; clear BK101; clear BK110; clear HB; have HO105 := n0_; have HO108 := n1_; have HO113 := n2_; have BK101 := n3_; have BK110 := n4_; have HB := n5_; clear n0_ n1_ n2_ n3_ n4_ n5_; (try clear hb); (try clear hb2); (try clear hk); (try clear hi); (try clear ho0)) | ((with_reducible refine gate_dst (N := 12) rfl ?_); refine box_event ?hg (N := 12) ?hd (cs := #[.slice none 0 0]) (t := 28) ?hr ?_; (case hd => rfl); (case hg => rfl); (case hr => first | (go_simp; done) | (go_simp; rfl)); intro gb114 hg w30 hbox hb; have n0_ := mz (Kd.R_below (by (with_reducible repeat (first | apply Kd.R_alloc | apply Kd.R_drewN | apply Kd.R_drew)); exact HO105.out) hb); have n1_ := mz (Kd.R_below (by (with_reducible repeat (first | apply Kd.R_alloc | apply Kd.R_drewN | apply Kd.R_drew)); exact HO108.out) hb); have n2_ := mz (Kd.R_below (by (with_reducible repeat (first | apply Kd.R_alloc | apply Kd.R_drewN | apply Kd.R_drew)); exact HO113.out) hb); have n3_ := mz (blk_below (g := gb101) (o := .cells #[.slice A0_0 l0_0.length c0_0] 24 (0, 0)) (by (with_reducible repeat (first | refine blk_drewN ?_ _ | refine blk_drew ?_ | refine blk_alloc ?_ _)); exact BK101.out) hb); have n4_ := mz (blk_below (g := gb110) (o := .cells #[.slice Ao25 t106.length co25] 28 (0, 0)) (by (with_reducible repeat (first | refine blk_drewN ?_ _ | refine blk_drew ?_ | refine blk_alloc ?_ _)); exact BK110.out) hb); have n5_ := mz (below_step (by repeat (first | (with_reducible first | exact HB.out | apply below_alloc | apply pw_below_drewN | apply below_drew1 | refine below_set ?_ GE101.out | refine below_set ?_ GE110.out) | exact HB.out)) hb); have n6_ := mz (hbox); have n7_ := mz ((by rw [hg]; exact (below_size (by repeat (first | (with_reducible first | exact HB.out | apply below_alloc | apply pw_below_drewN | apply below_drew1 | refine below_set ?_ GE101.out | refine below_set ?_ GE110.out) | exact HB.out))) : w.heap.size ≤ gb114)); have n8_ := mz ((by rw [hg]; exact (below_size (by repeat (first | (with_reducible first | exact HB.out | apply below_alloc | apply pw_below_drewN | apply below_drew1 | refine below_set ?_ GE101.out | refine below_set ?_ GE110.out) | exact HB.out))) : w.heap.size ≤ gb114)); have n9_ := mz ((by rw [hg]; exact Nat.ne_of_lt (blk_lt (g := gb101) (o := .cells #[.slice A0_0 l0_0.length c0_0] 24 (0, 0)) (by (with_reducible repeat (first | refine blk_drewN ?_ _ | refine blk_drew ?_ | refine blk_alloc ?_ _)); exact BK101.out)) : gb101 ≠ gb114)); have n10_ := mz ((by rw [hg]; exact Nat.ne_of_gt (blk_lt (g := gb101) (o := .cells #[.slice A0_0 l0_0.length c0_0] 24 (0, 0)) (by (with_reducible repeat (first | refine blk_drewN ?_ _ | refine blk_drew ?_ | refine blk_alloc ?_ _)); exact BK101.out)) : gb114 ≠ gb101)); have n11_ := mz ((by rw [hg]; exact Nat.ne_of_lt (blk_lt (g := gb110) (o := .cells #[.slice Ao25 t106.length co25] 28 (0, 0)) (by (with_reducible repeat (first | refine blk_drewN ?_ _ | refine blk_drew ?_ | refine blk_alloc ?_ _)); exact BK110.out)) : gb110 ≠ gb114)); have n12_ := mz ((by rw [hg]; exact Nat.ne_of_gt (blk_lt (g := gb110) (o := .cells #[.slice Ao25 t106.length co25] 28 (0, 0)) (by (with_reducible repeat (first | refine blk_drewN ?_ _ | refine blk_drew ?_ | refine blk_alloc ?_ _)); exact BK110.out)) : gb114 ≠ gb110)); clear HO105; clear HO108; clear HO113; clear BK101; clear BK110; clear HB; have HO105 := n0_; have HO108 := n1_; have HO113 := n2_; have BK101 := n3_; have BK110 := n4_; have HB := n5_; have BK114 := n6_; have GW114 := n7_; have GE114 := n8_; have NB101_114 := n9_; have NB114_101 := n10_; have NB110_114 := n11_; have NB114_110 := n12_; clear n0_ n1_ n2_ n3_ n4_ n5_ n6_ n7_ n8_ n9_ n10_ n11_ n12_; clear hb hbox hg; obtain ⟨Ao31, co31, eo31⟩ := Kd.R_slice HO113.out; subst eo31; have hnb32 := NB114_101.out; have hnc32 := NB101_114.out; have hnb33 := NB114_110.out; have hnc33 := NB110_114.out; have hcz34_0 : w30.cell? ⟨gb114, 0, none⟩ = some (.slice none 0 0) := (blk_cell BK114.out 0).trans rfl; have hfz34_0 := blk_frozen BK114.out 0) | ((with_reducible refine gate_callee (f := 7) rfl ?_); refine goesL_ (some 44) rfl rfl Try.func7 (by kernel_rfl) rfl #[.agg #[.slice Ao31 t111.length co31], .int .i64 a1, .int .i64 a2, .string a3] rfl (by (try simp only [List.map_toArray, List.map_cons, List.map_nil]); first | done | rfl | (simp only [List.length_drop, List.length_take]; rfl)) ?_; (with_reducible refine (impl_PutAtom.calls _ _ t111 a1 a2 a3 t115 t118 _ ?side1 ?side2 A15.out).mono ?_); (case side1 => refine (Kd.R_reads' (e := 41) (base := w.heap.size) (ok := fun k_ => ((True ∧ some k_ ≠ (.slice Ao22 t103.length co22 : Value).ownBlock) ∧ some k_ ≠ (.slice Ao25 t106.length co25 : Value).ownBlock)) (n := t111.length) (c := co31) ?_).2.2; exact (by (with_reducible repeat (first | apply Kd.R_alloc | apply Kd.R_drewN | apply Kd.R_drew)); exact (Kd.R_mono (Kd.R_far (p := ⟨gb114, 0, none⟩) (Kd.R_types HO113.out BK114.out (by decide)) (fun _ hk => hk.2) (.slice Ao31 t111.length co31)) (fun _ h_ => h_.1)))); (case side2 => exact (Kd.R_reads' HO113.out).2.1); rintro e w35 ⟨v116, rfl, ho0, hb⟩; refine ⟨_, rfl, ?_⟩; have n0_ := mz (Kd.R_elder' (by (with_reducible repeat (first | apply Kd.R_alloc | apply Kd.R_drewN | apply Kd.R_drew)); exact (Kd.R_mono (Kd.R_far (p := ⟨gb114, 0, none⟩) (Kd.R_types HO105.out BK114.out (by decide)) (fun _ hk => hk.2) (.slice Ao31 t111.length co31)) (fun _ h_ => h_.1))) (Kd.R_base ho0) hb); have n1_ := mz (Kd.R_elder' (by (with_reducible repeat (first | apply Kd.R_alloc | apply Kd.R_drewN | apply Kd.R_drew)); exact (Kd.R_mono (Kd.R_far (p := ⟨gb114, 0, none⟩) (Kd.R_types HO108.out BK114.out (by decide)) (fun _ hk => hk.2) (.slice Ao31 t111.length co31)) (fun _ h_ => h_.1))) (Kd.R_base ho0) hb); have n2_ := mz (Kd.R_elder' (by (with_reducible repeat (first | apply Kd.R_alloc | apply Kd.R_drewN | apply Kd.R_drew)); exact (Kd.R_mono (Kd.R_far (p := ⟨gb114, 0, none⟩) (Kd.R_types HO113.out BK114.out (by decide)) (fun _ hk => hk.2) (.slice Ao31 t111.length co31)) (fun _ h_ => h_.1))) (Kd.R_base ho0) hb); have n3_ := mz (Kd.R_lower (Kd.R_new' (Kd.R_new' (Kd.R_new' ho0 (Kd.R_lt (by (with_reducible repeat (first | apply Kd.R_alloc | apply Kd.R_drewN | apply Kd.R_drew)); exact (Kd.R_mono (Kd.R_far (p := ⟨gb114, 0, none⟩) (Kd.R_types HO105.out BK114.out (by decide)) (fun _ hk => hk.2) (.slice Ao31 t111.length co31)) (fun _ h_ => h_.1))))) (Kd.R_lt (by (with_reducible repeat (first | apply Kd.R_alloc | apply Kd.R_drewN | apply Kd.R_drew)); exact (Kd.R_mono (Kd.R_far (p := ⟨gb114, 0, none⟩) (Kd.R_types HO108.out BK114.out (by decide)) (fun _ hk => hk.2) (.slice Ao31 t111.length co31)) (fun _ h_ => h_.1))))) (Kd.R_lt (by (with_reducible repeat (first | apply Kd.R_alloc | apply Kd.R_drewN | apply Kd.R_drew)); exact (Kd.R_mono (Kd.R_far (p := ⟨gb114, 0, none⟩) (Kd.R_types HO113.out BK114.out (by decide)) (fun _ hk => hk.2) (.slice Ao31 t111.length co31)) (fun _ h_ => h_.1))))) (below_size (by repeat (first | (with_reducible first | exact HB.out | apply below_alloc | apply pw_below_drewN | apply below_drew1 | refine below_set ?_ GE101.out | refine below_set ?_ GE110.out | refine below_set ?_ GE114.out) | exact HB.out)))); have n4_ := mz (blk_below (g := gb101) (o := .cells #[.slice A0_0 l0_0.length c0_0] 24 (0, 0)) (by (with_reducible repeat (first | refine blk_drewN ?_ _ | refine blk_drew ?_ | refine blk_alloc ?_ _)); refine blk_far ?_ NB101_114.out _; (with_reducible repeat (first | refine blk_drewN ?_ _ | refine blk_drew ?_ | refine blk_alloc ?_ _)); exact BK101.out) hb); have n5_ := mz (blk_below (g := gb110) (o := .cells #[.slice Ao25 t106.length co25] 28 (0, 0)) (by (with_reducible repeat (first | refine blk_drewN ?_ _ | refine blk_drew ?_ | refine blk_alloc ?_ _)); refine blk_far ?_ NB110_114.out _; (with_reducible repeat (first | refine blk_drewN ?_ _ | refine blk_drew ?_ | refine blk_alloc ?_ _)); exact BK110.out) hb); have n6_ := mz (blk_below (g := gb114) (o := .cells #[.slice Ao31 t111.length co31] 28 (0, 0)) (by (with_reducible repeat (first | refine blk_drewN ?_ _ | refine blk_drew ?_ | refine blk_alloc ?_ _)); refine blk_put (cs := #[.slice none 0 0]) ?_ 0 _ rfl; (with_reducible repeat (first | refine blk_drewN ?_ _ | refine blk_drew ?_ | refine blk_alloc ?_ _)); exact BK114.out) hb); have n7_ := mz (below_step (by repeat (first | (with_reducible first | exact HB.out | apply below_alloc | apply pw_below_drewN | apply below_drew1 | refine below_set ?_ GE101.out | refine below_set ?_ GE110.out | refine below_set ?_ GE114.out) | exact HB.out)) hb); clear HO105; clear HO108; clear HO113; clear BK101; clear BK110; clear BK114; clear HB; have HO105 := n0_; have HO108 := n1_; have HO113 := n2_; have HO117 := n3_; have BK101 := n4_; have BK110 := n5_; have BK114 := n6_; have HB := n7_; clear n0_ n1_ n2_ n3_ n4_ n5_ n6_ n7_; (try clear hb); (try clear hb2); (try clear hk); (try clear hi); (try clear ho0)) | ((with_reducible refine gate_dst (N := 13) rfl ?_); refine box_event ?hg (N := 13) ?hd (cs := #[.slice none 0 0]) (t := 28) ?hr ?_; (case hd => rfl); (case hg => rfl); (case hr => first | (go_simp; done) | (go_simp; rfl)); intro gb119 hg w36 hbox hb; have n0_ := mz (Kd.R_below (by (with_reducible repeat (first | apply Kd.R_alloc | apply Kd.R_drewN | apply Kd.R_drew)); exact HO105.out) hb); have n1_ := mz (Kd.R_below (by (with_reducible repeat (first | apply Kd.R_alloc | apply Kd.R_drewN | apply Kd.R_drew)); exact HO108.out) hb); have n2_ := mz (Kd.R_below (by (with_reducible repeat (first | apply Kd.R_alloc | apply Kd.R_drewN | apply Kd.R_drew)); exact HO113.out) hb); have n3_ := mz (Kd.R_below (by (with_reducible repeat (first | apply Kd.R_alloc | apply Kd.R_drewN | apply Kd.R_drew)); exact HO117.out) hb); have n4_ := mz (blk_below (g := gb101) (o := .cells #[.slice A0_0 l0_0.length c0_0] 24 (0, 0)) (by (with_reducible repeat (first | refine blk_drewN ?_ _ | refine blk_drew ?_ | refine blk_alloc ?_ _)); exact BK101.out) hb); have n5_ := mz (blk_below (g := gb110) (o := .cells #[.slice Ao25 t106.length co25] 28 (0, 0)) (by (with_reducible repeat (first | refine blk_drewN ?_ _ | refine blk_drew ?_ | refine blk_alloc ?_ _)); exact BK110.out) hb); have n6_ := mz (blk_below (g := gb114) (o := .cells #[.slice Ao31 t111.length co31] 28 (0, 0)) (by (with_reducible repeat (first | refine blk_drewN ?_ _ | refine blk_drew ?_ | refine blk_alloc ?_ _)); exact BK114.out) hb); have n7_ := mz (below_step (by repeat (first | (with_reducible first | exact HB.out | apply below_alloc | apply pw_below_drewN | apply below_drew1 | refine below_set ?_ GE101.out | refine below_set ?_ GE110.out | refine below_set ?_ GE114.out) | exact HB.out)) hb); have n8_ := mz (hbox); have n9_ := mz ((by rw [hg]; exact (below_size (by repeat (first | (with_reducible first | exact HB.out | apply below_alloc | apply pw_below_drewN | apply below_drew1 | refine below_set ?_ GE101.out | refine below_set ?_ GE110.out | refine below_set ?_ GE114.out) | exact HB.out))) : w.heap.size ≤ gb119)); have n10_ := mz ((by rw [hg]; exact (below_size (by repeat (first | (with_reducible first | exact HB.out | apply below_alloc | apply pw_below_drewN | apply below_drew1 | refine below_set ?_ GE101.out | refine below_set ?_ GE110.out | refine below_set ?_ GE114.out) | exact HB.out))) : w.heap.size ≤ gb119)); have n11_ := mz ((by rw [hg]; exact Nat.ne_of_lt (blk_lt (g := gb101) (o := .cells #[.slice A0_0 l0_0.length c0_0] 24 (0, 0)) (by (with_reducible repeat (first | refine blk_drewN ?_ _ | refine blk_drew ?_ | refine blk_alloc ?_ _)); exact BK101.out)) : gb101 ≠ gb119)); have n12_ := mz ((by rw [hg]; exact Nat.ne_of_gt (blk_lt (g := gb101) (o := .cells #[.slice A0_0 l0_0.length c0_0] 24 (0, 0)) (by (with_reducible repeat (first | refine blk_drewN ?_ _ | refine blk_drew ?_ | refine blk_alloc ?_ _)); exact BK101.out)) : gb119 ≠ gb101)); have n13_ := mz ((by rw [hg]; exact Nat.ne_of_lt (blk_lt (g := gb110) (o := .cells #[.slice Ao25 t106.length co25] 28 (0, 0)) (by (with_reducible repeat (first | refine blk_drewN ?_ _ | refine blk_drew ?_ | refine blk_alloc ?_ _)); exact BK110.out)) : gb110 ≠ gb119)); have n14_ := mz ((by rw [hg]; exact Nat.ne_of_gt (blk_lt (g := gb110) (o := .cells #[.slice Ao25 t106.length co25] 28 (0, 0)) (by (with_reducible repeat (first | refine blk_drewN ?_ _ | refine blk_drew ?_ | refine blk_alloc ?_ _)); exact BK110.out)) : gb119 ≠ gb110)); have n15_ := mz ((by rw [hg]; exact Nat.ne_of_lt (blk_lt (g := gb114) (o := .cells #[.slice Ao31 t111.length co31] 28 (0, 0)) (by (with_reducible repeat (first | refine blk_drewN ?_ _ | refine blk_drew ?_ | refine blk_alloc ?_ _)); exact BK114.out)) : gb114 ≠ gb119)); have n16_ := mz ((by rw [hg]; exact Nat.ne_of_gt (blk_lt (g := gb114) (o := .cells #[.slice Ao31 t111.length co31] 28 (0, 0)) (by (with_reducible repeat (first | refine blk_drewN ?_ _ | refine blk_drew ?_ | refine blk_alloc ?_ _)); exact BK114.out)) : gb119 ≠ gb114)); clear HO105; clear HO108; clear HO113; clear HO117; clear BK101; clear BK110; clear BK114; clear HB; have HO105 := n0_; have HO108 := n1_; have HO113 := n2_; have HO117 := n3_; have BK101 := n4_; have BK110 := n5_; have BK114 := n6_; have HB := n7_; have BK119 := n8_; have GW119 := n9_; have GE119 := n10_; have NB101_119 := n11_; have NB119_101 := n12_; have NB110_119 := n13_; have NB119_110 := n14_; have NB114_119 := n15_; have NB119_114 := n16_; clear n0_ n1_ n2_ n3_ n4_ n5_ n6_ n7_ n8_ n9_ n10_ n11_ n12_ n13_ n14_ n15_ n16_; clear hb hbox hg; obtain ⟨Ao37, co37, eo37⟩ := Kd.R_slice HO117.out; subst eo37; have hnb38 := NB119_101.out; have hnc38 := NB101_119.out; have hnb39 := NB119_110.out; have hnc39 := NB110_119.out; have hnb40 := NB119_114.out; have hnc40 := NB114_119.out; have hcz41_0 : w36.cell? ⟨gb119, 0, none⟩ = some (.slice none 0 0) := (blk_cell BK119.out 0).trans rfl; have hfz41_0 := blk_frozen BK119.out 0))
      (try simp only [Act.put, List.setIfInBounds_toArray, List.set_cons_zero, List.set_cons_succ])
      go_cut [55] (fun v55 wc => ∃ (kq : Nat) (x55_15 : Bool), v55 = .bool x55_15 ∧ Aside0 (laws_FnExactPutAtom.j0 kq a1 a2 a3 t109 t118 x55_15 l0_0 t106 t111 t115 = some r) ∧ Aside0 (kq ≤ k) ∧ Aside0 (Kd.R k41 41 wc w.heap.size (fun k_ => some k_ ≠ ((.slice Ao31 t111.length co31) : Value).ownBlock ∧ some k_ ≠ ((.slice Ao37 t115.length co37) : Value).ownBlock) (.slice Ao25 t106.length co25) t106) ∧ Aside0 (Kd.R k41 41 wc w.heap.size (fun k_ => some k_ ≠ ((.slice Ao25 t106.length co25) : Value).ownBlock ∧ some k_ ≠ ((.slice Ao37 t115.length co37) : Value).ownBlock) (.slice Ao31 t111.length co31) t111) ∧ Aside0 (Kd.R k41 41 wc w.heap.size (fun k_ => some k_ ≠ ((.slice Ao25 t106.length co25) : Value).ownBlock ∧ some k_ ≠ ((.slice Ao31 t111.length co31) : Value).ownBlock) (.slice Ao37 t115.length co37) t115) ∧ Aside0 (wc.heap[gb101]? = some (.cells #[(.slice A0_0 l0_0.length c0_0)] 24 (0, 0))) ∧ Aside0 (wc.heap[gb110]? = some (.cells #[(.slice Ao25 t106.length co25)] 28 (0, 0))) ∧ Aside0 (wc.heap[gb114]? = some (.cells #[(.slice Ao31 t111.length co31)] 28 (0, 0))) ∧ Aside0 (wc.heap[gb119]? = some (.cells #[(.slice Ao37 t115.length co37)] 28 (0, 0))) ∧ Aside0 (Below w.heap.size w wc))
      case first =>
        have H := HC16.out
        clear HC16
        replace H := be0_ H
        obtain ⟨t120, A420, H⟩ := H
        replace H : (if t120 = true then (laws_FnExactPutAtom.j0 k a1 a2 a3 t109 t118 (t118 != t109) l0_0 t106 t111 t115) else (laws_FnExactPutAtom.j0 k a1 a2 a3 t109 t118 true l0_0 t106 t111 t115)) = some r := H
        have A42 := mz A420
        clear A420
        by_cases c43 : t120 = true
        · subst c43
          have H1 : (laws_FnExactPutAtom.j0 k a1 a2 a3 t109 t118 (t118 != t109) l0_0 t106 t111 t115) = some r := by rw [if_pos rfl] at H; exact H
          clear H
          have H := H1
          clear H1
          have H' := mz H
          clear H
          have hnb44 := NB119_101.out
          have hnc44 := NB101_119.out
          have hnb45 := NB119_110.out
          have hnc45 := NB110_119.out
          have hnb46 := NB119_114.out
          have hnc46 := NB114_119.out
          have hcz47_0 : w36.cell? ⟨gb119, 0, none⟩ = some (.slice none 0 0) := (blk_cell BK119.out 0).trans rfl
          have hfz47_0 := blk_frozen BK119.out 0
          have hnb48 := NB110_101.out
          have hnc48 := NB101_110.out
          have hnb49 := NB110_114.out
          have hnc49 := NB114_110.out
          have hcz50_0 : w36.cell? ⟨gb110, 0, none⟩ = some (.slice Ao25 t106.length co25) := (blk_cell BK110.out 0).trans rfl
          have hfz50_0 := blk_frozen BK110.out 0
          go_wp2_with (first | ((with_reducible refine gate_callee (f := 8) rfl ?_); refine goesL_ (some 49) rfl rfl Try.func8 (by kernel_rfl) rfl #[.agg #[.slice Ao37 t115.length co37], .agg #[.slice Ao25 t106.length co25]] rfl (by (try simp only [List.map_toArray, List.map_cons, List.map_nil]); first | done | rfl | (simp only [List.length_drop, List.length_take]; rfl)) ?_; (with_reducible refine (laws_eqSeq.calls k _ _ t115 _ _ t106 true _ ?side1 ?side2 ?side3 ?side4 A42.out).mono ?_); (case side1 => refine (Kd.R_reads' (e := 41) (base := w.heap.size) (ok := fun k_ => (((True ∧ some k_ ≠ (.slice Ao22 t103.length co22 : Value).ownBlock) ∧ some k_ ≠ (.slice Ao25 t106.length co25 : Value).ownBlock) ∧ some k_ ≠ (.slice Ao31 t111.length co31 : Value).ownBlock)) (n := t115.length) (c := co37) ?_).2.2; exact (by (with_reducible repeat (first | apply Kd.R_alloc | apply Kd.R_drewN | apply Kd.R_drew)); exact (Kd.R_mono (Kd.R_far (p := ⟨gb119, 0, none⟩) (Kd.R_types HO117.out BK119.out (by decide)) (fun _ hk => hk.2) (.slice Ao37 t115.length co37)) (fun _ h_ => h_.1)))); (case side2 => exact (Kd.R_reads' HO117.out).2.1); (case side3 => refine (Kd.R_reads' (e := 41) (base := w.heap.size) (ok := fun k_ => (((True ∧ some k_ ≠ (.slice Ao22 t103.length co22 : Value).ownBlock) ∧ some k_ ≠ (.slice Ao31 t111.length co31 : Value).ownBlock) ∧ some k_ ≠ (.slice Ao37 t115.length co37 : Value).ownBlock)) (n := t106.length) (c := co25) ?_).2.2; exact (by (with_reducible repeat (first | apply Kd.R_alloc | apply Kd.R_drewN | apply Kd.R_drew)); exact (Kd.R_mono (Kd.R_far (p := ⟨gb119, 0, none⟩) (Kd.R_types HO108.out BK119.out (by decide)) (fun _ hk => hk.2) (.slice Ao37 t115.length co37)) (fun _ h_ => h_.1)))); (case side4 => exact (Kd.R_reads' HO108.out).2.1); rintro e w51 ⟨rfl, hb⟩; refine ⟨_, rfl, ?_⟩; have n0_ := mz (Kd.R_below (by (with_reducible repeat (first | apply Kd.R_alloc | apply Kd.R_drewN | apply Kd.R_drew)); exact (Kd.R_mono (Kd.R_far (p := ⟨gb119, 0, none⟩) (Kd.R_types HO105.out BK119.out (by decide)) (fun _ hk => hk.2) (.slice Ao37 t115.length co37)) (fun _ h_ => h_.1))) hb); have n1_ := mz (Kd.R_below (by (with_reducible repeat (first | apply Kd.R_alloc | apply Kd.R_drewN | apply Kd.R_drew)); exact (Kd.R_mono (Kd.R_far (p := ⟨gb119, 0, none⟩) (Kd.R_types HO108.out BK119.out (by decide)) (fun _ hk => hk.2) (.slice Ao37 t115.length co37)) (fun _ h_ => h_.1))) hb); have n2_ := mz (Kd.R_below (by (with_reducible repeat (first | apply Kd.R_alloc | apply Kd.R_drewN | apply Kd.R_drew)); exact (Kd.R_mono (Kd.R_far (p := ⟨gb119, 0, none⟩) (Kd.R_types HO113.out BK119.out (by decide)) (fun _ hk => hk.2) (.slice Ao37 t115.length co37)) (fun _ h_ => h_.1))) hb); have n3_ := mz (Kd.R_below (by (with_reducible repeat (first | apply Kd.R_alloc | apply Kd.R_drewN | apply Kd.R_drew)); exact (Kd.R_mono (Kd.R_far (p := ⟨gb119, 0, none⟩) (Kd.R_types HO117.out BK119.out (by decide)) (fun _ hk => hk.2) (.slice Ao37 t115.length co37)) (fun _ h_ => h_.1))) hb); have n4_ := mz (blk_below (g := gb101) (o := .cells #[.slice A0_0 l0_0.length c0_0] 24 (0, 0)) (by (with_reducible repeat (first | refine blk_drewN ?_ _ | refine blk_drew ?_ | refine blk_alloc ?_ _)); refine blk_far ?_ NB101_119.out _; (with_reducible repeat (first | refine blk_drewN ?_ _ | refine blk_drew ?_ | refine blk_alloc ?_ _)); exact BK101.out) hb); have n5_ := mz (blk_below (g := gb110) (o := .cells #[.slice Ao25 t106.length co25] 28 (0, 0)) (by (with_reducible repeat (first | refine blk_drewN ?_ _ | refine blk_drew ?_ | refine blk_alloc ?_ _)); refine blk_far ?_ NB110_119.out _; (with_reducible repeat (first | refine blk_drewN ?_ _ | refine blk_drew ?_ | refine blk_alloc ?_ _)); exact BK110.out) hb); have n6_ := mz (blk_below (g := gb114) (o := .cells #[.slice Ao31 t111.length co31] 28 (0, 0)) (by (with_reducible repeat (first | refine blk_drewN ?_ _ | refine blk_drew ?_ | refine blk_alloc ?_ _)); refine blk_far ?_ NB114_119.out _; (with_reducible repeat (first | refine blk_drewN ?_ _ | refine blk_drew ?_ | refine blk_alloc ?_ _)); exact BK114.out) hb); have n7_ := mz (blk_below (g := gb119) (o := .cells #[.slice Ao37 t115.length co37] 28 (0, 0)) (by (with_reducible repeat (first | refine blk_drewN ?_ _ | refine blk_drew ?_ | refine blk_alloc ?_ _)); refine blk_put (cs := #[.slice none 0 0]) ?_ 0 _ rfl; (with_reducible repeat (first | refine blk_drewN ?_ _ | refine blk_drew ?_ | refine blk_alloc ?_ _)); exact BK119.out) hb); have n8_ := mz (below_step (by repeat (first | (with_reducible first | exact HB.out | apply below_alloc | apply pw_below_drewN | apply below_drew1 | refine below_set ?_ GE101.out | refine below_set ?_ GE110.out | refine below_set ?_ GE114.out | refine below_set ?_ GE119.out) | exact HB.out)) hb); clear HO105; clear HO108; clear HO113; clear HO117; clear BK101; clear BK110; clear BK114; clear BK119; clear HB; have HO105 := n0_; have HO108 := n1_; have HO113 := n2_; have HO117 := n3_; have BK101 := n4_; have BK110 := n5_; have BK114 := n6_; have BK119 := n7_; have HB := n8_; clear n0_ n1_ n2_ n3_ n4_ n5_ n6_ n7_ n8_; (try clear hb); (try clear hb2); (try clear hk); (try clear hi)))
          go_meet
          case rel => exact ⟨_, ((t118 != t109)), (by first | rfl | (simp; done) | (simp [*]; done)), H', ⟨by first | omega | exact Nat.le_refl _⟩, ⟨by (with_reducible repeat (first | apply Kd.R_alloc | apply Kd.R_drewN | apply Kd.R_drew)); exact Kd.R_mono HO108.out (fun _ hk => ⟨hk.1.2, hk.2⟩)⟩, ⟨by (with_reducible repeat (first | apply Kd.R_alloc | apply Kd.R_drewN | apply Kd.R_drew)); exact Kd.R_mono HO113.out (fun _ hk => ⟨hk.1.2, hk.2⟩)⟩, ⟨by (with_reducible repeat (first | apply Kd.R_alloc | apply Kd.R_drewN | apply Kd.R_drew)); exact Kd.R_mono HO117.out (fun _ hk => ⟨hk.1.2, hk.2⟩)⟩, ⟨by (with_reducible repeat (first | refine blk_drewN ?_ _ | refine blk_drew ?_ | refine blk_alloc ?_ _)); exact BK101.out⟩, ⟨by (with_reducible repeat (first | refine blk_drewN ?_ _ | refine blk_drew ?_ | refine blk_alloc ?_ _)); exact BK110.out⟩, ⟨by (with_reducible repeat (first | refine blk_drewN ?_ _ | refine blk_drew ?_ | refine blk_alloc ?_ _)); exact BK114.out⟩, ⟨by (with_reducible repeat (first | refine blk_drewN ?_ _ | refine blk_drew ?_ | refine blk_alloc ?_ _)); exact BK119.out⟩, ⟨by repeat (first | (with_reducible first | exact HB.out | apply below_alloc | apply pw_below_drewN | apply below_drew1 | refine below_set ?_ GE101.out | refine below_set ?_ GE110.out | refine below_set ?_ GE114.out | refine below_set ?_ GE119.out) | exact HB.out)⟩⟩
        · replace c43 := Bool.eq_false_iff.mpr c43
          subst c43
          have H1 : (laws_FnExactPutAtom.j0 k a1 a2 a3 t109 t118 true l0_0 t106 t111 t115) = some r := by rw [if_neg (show ¬ (false = true) by decide)] at H; exact H
          clear H
          have H := H1
          clear H1
          have H' := mz H
          clear H
          have hnb52 := NB119_101.out
          have hnc52 := NB101_119.out
          have hnb53 := NB119_110.out
          have hnc53 := NB110_119.out
          have hnb54 := NB119_114.out
          have hnc54 := NB114_119.out
          have hcz55_0 : w36.cell? ⟨gb119, 0, none⟩ = some (.slice none 0 0) := (blk_cell BK119.out 0).trans rfl
          have hfz55_0 := blk_frozen BK119.out 0
          have hnb56 := NB110_101.out
          have hnc56 := NB101_110.out
          have hnb57 := NB110_114.out
          have hnc57 := NB114_110.out
          have hcz58_0 : w36.cell? ⟨gb110, 0, none⟩ = some (.slice Ao25 t106.length co25) := (blk_cell BK110.out 0).trans rfl
          have hfz58_0 := blk_frozen BK110.out 0
          go_wp2_with (first | ((with_reducible refine gate_callee (f := 8) rfl ?_); refine goesL_ (some 49) rfl rfl Try.func8 (by kernel_rfl) rfl #[.agg #[.slice Ao37 t115.length co37], .agg #[.slice Ao25 t106.length co25]] rfl (by (try simp only [List.map_toArray, List.map_cons, List.map_nil]); first | done | rfl | (simp only [List.length_drop, List.length_take]; rfl)) ?_; (with_reducible refine (laws_eqSeq.calls k _ _ t115 _ _ t106 false _ ?side1 ?side2 ?side3 ?side4 A42.out).mono ?_); (case side1 => refine (Kd.R_reads' (e := 41) (base := w.heap.size) (ok := fun k_ => (((True ∧ some k_ ≠ (.slice Ao22 t103.length co22 : Value).ownBlock) ∧ some k_ ≠ (.slice Ao25 t106.length co25 : Value).ownBlock) ∧ some k_ ≠ (.slice Ao31 t111.length co31 : Value).ownBlock)) (n := t115.length) (c := co37) ?_).2.2; exact (by (with_reducible repeat (first | apply Kd.R_alloc | apply Kd.R_drewN | apply Kd.R_drew)); exact (Kd.R_mono (Kd.R_far (p := ⟨gb119, 0, none⟩) (Kd.R_types HO117.out BK119.out (by decide)) (fun _ hk => hk.2) (.slice Ao37 t115.length co37)) (fun _ h_ => h_.1)))); (case side2 => exact (Kd.R_reads' HO117.out).2.1); (case side3 => refine (Kd.R_reads' (e := 41) (base := w.heap.size) (ok := fun k_ => (((True ∧ some k_ ≠ (.slice Ao22 t103.length co22 : Value).ownBlock) ∧ some k_ ≠ (.slice Ao31 t111.length co31 : Value).ownBlock) ∧ some k_ ≠ (.slice Ao37 t115.length co37 : Value).ownBlock)) (n := t106.length) (c := co25) ?_).2.2; exact (by (with_reducible repeat (first | apply Kd.R_alloc | apply Kd.R_drewN | apply Kd.R_drew)); exact (Kd.R_mono (Kd.R_far (p := ⟨gb119, 0, none⟩) (Kd.R_types HO108.out BK119.out (by decide)) (fun _ hk => hk.2) (.slice Ao37 t115.length co37)) (fun _ h_ => h_.1)))); (case side4 => exact (Kd.R_reads' HO108.out).2.1); rintro e w59 ⟨rfl, hb⟩; refine ⟨_, rfl, ?_⟩; have n0_ := mz (Kd.R_below (by (with_reducible repeat (first | apply Kd.R_alloc | apply Kd.R_drewN | apply Kd.R_drew)); exact (Kd.R_mono (Kd.R_far (p := ⟨gb119, 0, none⟩) (Kd.R_types HO105.out BK119.out (by decide)) (fun _ hk => hk.2) (.slice Ao37 t115.length co37)) (fun _ h_ => h_.1))) hb); have n1_ := mz (Kd.R_below (by (with_reducible repeat (first | apply Kd.R_alloc | apply Kd.R_drewN | apply Kd.R_drew)); exact (Kd.R_mono (Kd.R_far (p := ⟨gb119, 0, none⟩) (Kd.R_types HO108.out BK119.out (by decide)) (fun _ hk => hk.2) (.slice Ao37 t115.length co37)) (fun _ h_ => h_.1))) hb); have n2_ := mz (Kd.R_below (by (with_reducible repeat (first | apply Kd.R_alloc | apply Kd.R_drewN | apply Kd.R_drew)); exact (Kd.R_mono (Kd.R_far (p := ⟨gb119, 0, none⟩) (Kd.R_types HO113.out BK119.out (by decide)) (fun _ hk => hk.2) (.slice Ao37 t115.length co37)) (fun _ h_ => h_.1))) hb); have n3_ := mz (Kd.R_below (by (with_reducible repeat (first | apply Kd.R_alloc | apply Kd.R_drewN | apply Kd.R_drew)); exact (Kd.R_mono (Kd.R_far (p := ⟨gb119, 0, none⟩) (Kd.R_types HO117.out BK119.out (by decide)) (fun _ hk => hk.2) (.slice Ao37 t115.length co37)) (fun _ h_ => h_.1))) hb); have n4_ := mz (blk_below (g := gb101) (o := .cells #[.slice A0_0 l0_0.length c0_0] 24 (0, 0)) (by (with_reducible repeat (first | refine blk_drewN ?_ _ | refine blk_drew ?_ | refine blk_alloc ?_ _)); refine blk_far ?_ NB101_119.out _; (with_reducible repeat (first | refine blk_drewN ?_ _ | refine blk_drew ?_ | refine blk_alloc ?_ _)); exact BK101.out) hb); have n5_ := mz (blk_below (g := gb110) (o := .cells #[.slice Ao25 t106.length co25] 28 (0, 0)) (by (with_reducible repeat (first | refine blk_drewN ?_ _ | refine blk_drew ?_ | refine blk_alloc ?_ _)); refine blk_far ?_ NB110_119.out _; (with_reducible repeat (first | refine blk_drewN ?_ _ | refine blk_drew ?_ | refine blk_alloc ?_ _)); exact BK110.out) hb); have n6_ := mz (blk_below (g := gb114) (o := .cells #[.slice Ao31 t111.length co31] 28 (0, 0)) (by (with_reducible repeat (first | refine blk_drewN ?_ _ | refine blk_drew ?_ | refine blk_alloc ?_ _)); refine blk_far ?_ NB114_119.out _; (with_reducible repeat (first | refine blk_drewN ?_ _ | refine blk_drew ?_ | refine blk_alloc ?_ _)); exact BK114.out) hb); have n7_ := mz (blk_below (g := gb119) (o := .cells #[.slice Ao37 t115.length co37] 28 (0, 0)) (by (with_reducible repeat (first | refine blk_drewN ?_ _ | refine blk_drew ?_ | refine blk_alloc ?_ _)); refine blk_put (cs := #[.slice none 0 0]) ?_ 0 _ rfl; (with_reducible repeat (first | refine blk_drewN ?_ _ | refine blk_drew ?_ | refine blk_alloc ?_ _)); exact BK119.out) hb); have n8_ := mz (below_step (by repeat (first | (with_reducible first | exact HB.out | apply below_alloc | apply pw_below_drewN | apply below_drew1 | refine below_set ?_ GE101.out | refine below_set ?_ GE110.out | refine below_set ?_ GE114.out | refine below_set ?_ GE119.out) | exact HB.out)) hb); clear HO105; clear HO108; clear HO113; clear HO117; clear BK101; clear BK110; clear BK114; clear BK119; clear HB; have HO105 := n0_; have HO108 := n1_; have HO113 := n2_; have HO117 := n3_; have BK101 := n4_; have BK110 := n5_; have BK114 := n6_; have BK119 := n7_; have HB := n8_; clear n0_ n1_ n2_ n3_ n4_ n5_ n6_ n7_ n8_; (try clear hb); (try clear hb2); (try clear hk); (try clear hi)))
          go_meet
          case rel => exact ⟨_, (true), (by first | rfl | (simp; done) | (simp [*]; done)), H', ⟨by first | omega | exact Nat.le_refl _⟩, ⟨by (with_reducible repeat (first | apply Kd.R_alloc | apply Kd.R_drewN | apply Kd.R_drew)); exact Kd.R_mono HO108.out (fun _ hk => ⟨hk.1.2, hk.2⟩)⟩, ⟨by (with_reducible repeat (first | apply Kd.R_alloc | apply Kd.R_drewN | apply Kd.R_drew)); exact Kd.R_mono HO113.out (fun _ hk => ⟨hk.1.2, hk.2⟩)⟩, ⟨by (with_reducible repeat (first | apply Kd.R_alloc | apply Kd.R_drewN | apply Kd.R_drew)); exact Kd.R_mono HO117.out (fun _ hk => ⟨hk.1.2, hk.2⟩)⟩, ⟨by (with_reducible repeat (first | refine blk_drewN ?_ _ | refine blk_drew ?_ | refine blk_alloc ?_ _)); exact BK101.out⟩, ⟨by (with_reducible repeat (first | refine blk_drewN ?_ _ | refine blk_drew ?_ | refine blk_alloc ?_ _)); exact BK110.out⟩, ⟨by (with_reducible repeat (first | refine blk_drewN ?_ _ | refine blk_drew ?_ | refine blk_alloc ?_ _)); exact BK114.out⟩, ⟨by (with_reducible repeat (first | refine blk_drewN ?_ _ | refine blk_drew ?_ | refine blk_alloc ?_ _)); exact BK119.out⟩, ⟨by repeat (first | (with_reducible first | exact HB.out | apply below_alloc | apply pw_below_drewN | apply below_drew1 | refine below_set ?_ GE101.out | refine below_set ?_ GE110.out | refine below_set ?_ GE114.out | refine below_set ?_ GE119.out) | exact HB.out)⟩⟩
      case rest =>
        clear HC16
        try clear c2
        try clear p2
        try clear c3
        try clear c4
        try clear c5
        try clear c5b0
        try clear c5b1
        try clear c6
        try clear c7
        try clear c8
        try clear c8b0
        try clear c26
        try clear c32
        try clear c33
        try clear c38
        try clear c39
        try clear c40
        try clear c43
        try clear c44
        try clear c45
        try clear c46
        try clear c48
        try clear c49
        try clear c52
        try clear c53
        try clear c54
        try clear c56
        try clear c57
        try clear hcz10_0
        try clear hcz18_0
        try clear hcz20_0
        try clear hcz27_0
        try clear hcz28_0
        try clear hcz34_0
        try clear hcz41_0
        try clear hcz47_0
        try clear hcz50_0
        try clear hcz55_0
        try clear hcz58_0
        try clear hfz10_0
        try clear hfz18_0
        try clear hfz20_0
        try clear hfz27_0
        try clear hfz28_0
        try clear hfz34_0
        try clear hfz41_0
        try clear hfz47_0
        try clear hfz50_0
        try clear hfz55_0
        try clear hfz58_0
        obtain ⟨kq, x55_15, rfl, HA, HJ15, HO_9a, HO_9b, HO_9d, BK101, BK110, BK114, BK119, HB⟩ := hcut
        cases kq with
        | zero => exact absurd HA.out (by simp [laws_FnExactPutAtom.j0])
        | succ kj15 =>
          have H := HA.out
          clear HA
          simp only [laws_FnExactPutAtom.j0] at H
          by_cases c60 : x55_15 = true
          · subst c60
            have H1 : (some false) = some r := by rw [if_pos rfl] at H; exact H
            clear H
            have H := H1
            clear H1
            obtain rfl := Option.some.inj H
            go_wp2
            go_ret
            exact ⟨by first | rfl | (simp [errW_none, errW_some] <;> rfl) | (simp [*, errW_none, errW_some] <;> rfl), by repeat (first | (with_reducible first | exact HB.out | apply below_alloc | apply pw_below_drewN | apply below_drew1 | refine below_set ?_ GE101.out | refine below_set ?_ GE110.out | refine below_set ?_ GE114.out | refine below_set ?_ GE119.out) | exact HB.out)⟩
          · replace c60 := Bool.eq_false_iff.mpr c60
            subst c60
            have H1 : ((laws_toSeq.f kj15 l0_0).bind fun t121 => ((laws_eqSeq.f kj15 t111 t121).bind fun t124 => (if t124 = true then ((laws_markSeq.f kj15 t111 1).bind fun bt125 => (if bt125.1 < 0 then (laws_FnExactPutAtom.j1 kj15 a1 a2 a3 t109 true l0_0 t106 t115) else ((laws_eqSeq.f kj15 t115 t106).bind fun t127 => (if t127 = true then (laws_FnExactPutAtom.j1 kj15 a1 a2 a3 t109 (t118 != t109) l0_0 t106 t115) else (laws_FnExactPutAtom.j1 kj15 a1 a2 a3 t109 true l0_0 t106 t115))))) else (some false)))) = some r := by rw [if_neg (show ¬ (false = true) by decide)] at H; exact H
            clear H
            have H := H1
            clear H1
            replace H := be0_ H
            obtain ⟨t121, A610, H⟩ := H
            replace H : ((laws_eqSeq.f kj15 t111 t121).bind fun t124 => (if t124 = true then ((laws_markSeq.f kj15 t111 1).bind fun bt125 => (if bt125.1 < 0 then (laws_FnExactPutAtom.j1 kj15 a1 a2 a3 t109 true l0_0 t106 t115) else ((laws_eqSeq.f kj15 t115 t106).bind fun t127 => (if t127 = true then (laws_FnExactPutAtom.j1 kj15 a1 a2 a3 t109 (t118 != t109) l0_0 t106 t115) else (laws_FnExactPutAtom.j1 kj15 a1 a2 a3 t109 true l0_0 t106 t115))))) else (some false))) = some r := H
            have A61 := mz A610
            clear A610
            replace H := be0_ H
            obtain ⟨t124, A620, H⟩ := H
            replace H : (if t124 = true then ((laws_markSeq.f kj15 t111 1).bind fun bt125 => (if bt125.1 < 0 then (laws_FnExactPutAtom.j1 kj15 a1 a2 a3 t109 true l0_0 t106 t115) else ((laws_eqSeq.f kj15 t115 t106).bind fun t127 => (if t127 = true then (laws_FnExactPutAtom.j1 kj15 a1 a2 a3 t109 (t118 != t109) l0_0 t106 t115) else (laws_FnExactPutAtom.j1 kj15 a1 a2 a3 t109 true l0_0 t106 t115))))) else (some false)) = some r := H
            have A62 := mz A620
            clear A620
            by_cases c63 : t124 = true
            · subst c63
              have H1 : ((laws_markSeq.f kj15 t111 1).bind fun bt125 => (if bt125.1 < 0 then (laws_FnExactPutAtom.j1 kj15 a1 a2 a3 t109 true l0_0 t106 t115) else ((laws_eqSeq.f kj15 t115 t106).bind fun t127 => (if t127 = true then (laws_FnExactPutAtom.j1 kj15 a1 a2 a3 t109 (t118 != t109) l0_0 t106 t115) else (laws_FnExactPutAtom.j1 kj15 a1 a2 a3 t109 true l0_0 t106 t115))))) = some r := by rw [if_pos rfl] at H; exact H
              clear H
              have H := H1
              clear H1
              replace H := be0_ H
              obtain ⟨⟨t125, t126⟩, A640, H⟩ := H
              replace H : (if t125 < 0 then (laws_FnExactPutAtom.j1 kj15 a1 a2 a3 t109 true l0_0 t106 t115) else ((laws_eqSeq.f kj15 t115 t106).bind fun t127 => (if t127 = true then (laws_FnExactPutAtom.j1 kj15 a1 a2 a3 t109 (t118 != t109) l0_0 t106 t115) else (laws_FnExactPutAtom.j1 kj15 a1 a2 a3 t109 true l0_0 t106 t115)))) = some r := H
              have A64 := mz A640
              clear A640
              have HC65 := mz H
              clear H
              try go_wp2
              have n0_ := mz (Kd.R_drew HO_9a.out)
              have n1_ := mz (Kd.R_drew HO_9b.out)
              have n2_ := mz (Kd.R_drew HO_9d.out)
              have n3_ := mz (blk_drew BK101.out)
              have n4_ := mz (blk_drew BK110.out)
              have n5_ := mz (blk_drew BK114.out)
              have n6_ := mz (blk_drew BK119.out)
              have n7_ := mz (below_drew1 HB.out)
              clear HO_9a
              clear HO_9b
              clear HO_9d
              clear BK101
              clear BK110
              clear BK114
              clear BK119
              clear HB
              have HO_9a := n0_
              have HO_9b := n1_
              have HO_9d := n2_
              have BK101 := n3_
              have BK110 := n4_
              have BK114 := n5_
              have BK119 := n6_
              have HB := n7_
              clear n0_ n1_ n2_ n3_ n4_ n5_ n6_ n7_
              refine start_ (n := 5) (S := fun w' => w'.cell? ⟨gb114, 0, none⟩ = some (.slice Ao31 t111.length co31) ∧ w'.cell? ⟨gb101, 0, none⟩ = some (.slice A0_0 l0_0.length c0_0)) (ds := []) #[false, false, false, false, false] (by kernel_rfl) rfl rfl ⟨(blk_cell BK114.out 0).trans rfl, (blk_cell BK101.out 0).trans rfl⟩ (fun hHeld => ?_)
              generalize wc.drew = w66 at HO_9a HO_9b HO_9d BK101 BK110 BK114 BK119 HB hHeld ⊢
              refine take_ (i := 0) (N := some 56) (v := ?_) (a' := ?_) #[true, false, false, false, false] rfl rfl (by kernel_rfl) (fun _ _ _ h => h) (Or.inl ⟨by rfl, ?_⟩) hHeld ?_ ?_
              rotate_left
              · rintro w' ⟨s0, s1⟩
                go_simp
                with_reducible rfl
              rotate_left
              · simp only [Act.put, List.setIfInBounds_toArray, List.set_cons_zero, List.set_cons_succ, i64_w, i32_w]
                rfl
              refine take_ (i := 1) (N := some 57) (v := ?_) (a' := ?_) #[true, true, false, false, false] rfl rfl (by kernel_rfl) (fun _ _ _ h => h) (Or.inl ⟨by rfl, ?_⟩) hHeld ?_ ?_
              rotate_left
              · rintro w' ⟨s0, s1⟩
                go_simp
                with_reducible rfl
              rotate_left
              · simp only [Act.put, List.setIfInBounds_toArray, List.set_cons_zero, List.set_cons_succ, i64_w, i32_w]
                rfl
              refine one_ (i := 2) (N := some 58) #[true, true, true, false, false] rfl rfl (by kernel_rfl) (by decide) (fun K hK => ?_)
              refine goes_ Try.func6 (by kernel_rfl) rfl #[.agg #[.slice A0_0 l0_0.length c0_0]] (by rfl) rfl rfl (by (try simp only [List.map_toArray, List.map_cons, List.map_nil]); first | done | rfl | (simp only [List.length_drop, List.length_take]; rfl)) ?_
              with_reducible refine (laws_toSeq.calls kj15 _ _ l0_0 t121 _ ?side1 ?side2 A61.out).mono ?_
              (case side1 => repeat (first | exact (Kd.C_below HR0_0.out HB.out) | (with_reducible refine Kd.C_alloc ?_ _) | (with_reducible refine Kd.C_drewN ?_ _) | (with_reducible refine Kd.C_drew ?_)))
              (case side2 => exact HC0_0.out)
              rintro e w67 ⟨v122, rfl, ho0, hb⟩
              refine ⟨_, rfl, ?_⟩
              have n0_ := mz (Kd.R_elder' (by (with_reducible repeat (first | apply Kd.R_alloc | apply Kd.R_drewN | apply Kd.R_drew)); exact HO_9a.out) (Kd.R_base ho0) hb)
              have n1_ := mz (Kd.R_elder' (by (with_reducible repeat (first | apply Kd.R_alloc | apply Kd.R_drewN | apply Kd.R_drew)); exact HO_9b.out) (Kd.R_base ho0) hb)
              have n2_ := mz (Kd.R_elder' (by (with_reducible repeat (first | apply Kd.R_alloc | apply Kd.R_drewN | apply Kd.R_drew)); exact HO_9d.out) (Kd.R_base ho0) hb)
              have n3_ := mz (Kd.R_lower (Kd.R_new' (Kd.R_new' (Kd.R_new' ho0 (Kd.R_lt (by (with_reducible repeat (first | apply Kd.R_alloc | apply Kd.R_drewN | apply Kd.R_drew)); exact HO_9a.out))) (Kd.R_lt (by (with_reducible repeat (first | apply Kd.R_alloc | apply Kd.R_drewN | apply Kd.R_drew)); exact HO_9b.out))) (Kd.R_lt (by (with_reducible repeat (first | apply Kd.R_alloc | apply Kd.R_drewN | apply Kd.R_drew)); exact HO_9d.out))) (below_size (by repeat (first | (with_reducible first | exact HB.out | apply below_alloc | apply pw_below_drewN | apply below_drew1 | refine below_set ?_ GE101.out | refine below_set ?_ GE110.out | refine below_set ?_ GE114.out | refine below_set ?_ GE119.out) | exact HB.out))))
              have n4_ := mz (blk_below (g := gb101) (o := .cells #[.slice A0_0 l0_0.length c0_0] 24 (0, 0)) (by (with_reducible repeat (first | refine blk_drewN ?_ _ | refine blk_drew ?_ | refine blk_alloc ?_ _)); exact BK101.out) hb)
              have n5_ := mz (blk_below (g := gb110) (o := .cells #[.slice Ao25 t106.length co25] 28 (0, 0)) (by (with_reducible repeat (first | refine blk_drewN ?_ _ | refine blk_drew ?_ | refine blk_alloc ?_ _)); exact BK110.out) hb)
              have n6_ := mz (blk_below (g := gb114) (o := .cells #[.slice Ao31 t111.length co31] 28 (0, 0)) (by (with_reducible repeat (first | refine blk_drewN ?_ _ | refine blk_drew ?_ | refine blk_alloc ?_ _)); exact BK114.out) hb)
              have n7_ := mz (blk_below (g := gb119) (o := .cells #[.slice Ao37 t115.length co37] 28 (0, 0)) (by (with_reducible repeat (first | refine blk_drewN ?_ _ | refine blk_drew ?_ | refine blk_alloc ?_ _)); exact BK119.out) hb)
              have n8_ := mz (below_step (by repeat (first | (with_reducible first | exact HB.out | apply below_alloc | apply pw_below_drewN | apply below_drew1 | refine below_set ?_ GE101.out | refine below_set ?_ GE110.out | refine below_set ?_ GE114.out | refine below_set ?_ GE119.out) | exact HB.out)) hb)
              clear HO_9a
              clear HO_9b
              clear HO_9d
              clear BK101
              clear BK110
              clear BK114
              clear BK119
              clear HB
              have HO_9a := n0_
              have HO_9b := n1_
              have HO_9d := n2_
              have HO123 := n3_
              have BK101 := n4_
              have BK110 := n5_
              have BK114 := n6_
              have BK119 := n7_
              have HB := n8_
              clear n0_ n1_ n2_ n3_ n4_ n5_ n6_ n7_ n8_
              (try clear hb)
              (try clear hb2)
              (try clear hk)
              (try clear hi)
              (try clear ho0)
              obtain ⟨Ao68, co68, eo68⟩ := Kd.R_slice HO123.out
              (first | subst eo68 | (injection eo68 with f1_ f2_ f3_; have f4_ := f1_.symm; have f5_ := f3_.symm; clear f1_ f2_ f3_; subst f4_; subst f5_))
              refine hK.out _ _ ⟨(blk_cell BK114.out 0).trans rfl, (blk_cell BK101.out 0).trans rfl⟩ (fun hHeld => ?_)
              clear hK K
              refine norm_ (a' := ?_) ?_ ?_
              rotate_left
              · show Act.put _ (some 58) _ = _
                simp only [Act.put, List.setIfInBounds_toArray, List.set_cons_zero, List.set_cons_succ, i64_w, i32_w]
                rfl
              refine one_ (i := 3) (N := some 59) #[true, true, true, true, false] rfl rfl (by kernel_rfl) (by decide) (fun K hK => ?_)
              refine goes_ Try.func8 (by kernel_rfl) rfl #[.agg #[.slice Ao31 t111.length co31], .agg #[.slice Ao68 t121.length co68]] (by rfl) rfl rfl (by (try simp only [List.map_toArray, List.map_cons, List.map_nil]); first | done | rfl | (simp only [List.length_drop, List.length_take]; rfl)) ?_
              with_reducible refine (laws_eqSeq.calls kj15 _ _ t111 _ _ t121 true _ ?side1 ?side2 ?side3 ?side4 A62.out).mono ?_
              (case side1 => repeat (first | exact (Kd.R_reads' HO_9b.out).2.2 | (with_reducible refine Kd.C_alloc ?_ _) | (with_reducible refine Kd.C_drewN ?_ _) | (with_reducible refine Kd.C_drew ?_)))
              (case side2 => exact (Kd.R_reads' HO_9b.out).2.1)
              (case side3 => repeat (first | exact (Kd.R_reads' HO123.out).2.2 | (with_reducible refine Kd.C_alloc ?_ _) | (with_reducible refine Kd.C_drewN ?_ _) | (with_reducible refine Kd.C_drew ?_)))
              (case side4 => exact (Kd.R_reads' HO123.out).2.1)
              rintro e w69 ⟨rfl, hb⟩
              refine ⟨_, rfl, ?_⟩
              have n0_ := mz (Kd.R_below (by (with_reducible repeat (first | apply Kd.R_alloc | apply Kd.R_drewN | apply Kd.R_drew)); exact HO_9a.out) hb)
              have n1_ := mz (Kd.R_below (by (with_reducible repeat (first | apply Kd.R_alloc | apply Kd.R_drewN | apply Kd.R_drew)); exact HO_9b.out) hb)
              have n2_ := mz (Kd.R_below (by (with_reducible repeat (first | apply Kd.R_alloc | apply Kd.R_drewN | apply Kd.R_drew)); exact HO_9d.out) hb)
              have n3_ := mz (Kd.R_below (by (with_reducible repeat (first | apply Kd.R_alloc | apply Kd.R_drewN | apply Kd.R_drew)); exact HO123.out) hb)
              have n4_ := mz (blk_below (g := gb101) (o := .cells #[.slice A0_0 l0_0.length c0_0] 24 (0, 0)) (by (with_reducible repeat (first | refine blk_drewN ?_ _ | refine blk_drew ?_ | refine blk_alloc ?_ _)); exact BK101.out) hb)
              have n5_ := mz (blk_below (g := gb110) (o := .cells #[.slice Ao25 t106.length co25] 28 (0, 0)) (by (with_reducible repeat (first | refine blk_drewN ?_ _ | refine blk_drew ?_ | refine blk_alloc ?_ _)); exact BK110.out) hb)
              have n6_ := mz (blk_below (g := gb114) (o := .cells #[.slice Ao31 t111.length co31] 28 (0, 0)) (by (with_reducible repeat (first | refine blk_drewN ?_ _ | refine blk_drew ?_ | refine blk_alloc ?_ _)); exact BK114.out) hb)
              have n7_ := mz (blk_below (g := gb119) (o := .cells #[.slice Ao37 t115.length co37] 28 (0, 0)) (by (with_reducible repeat (first | refine blk_drewN ?_ _ | refine blk_drew ?_ | refine blk_alloc ?_ _)); exact BK119.out) hb)
              have n8_ := mz (below_step (by repeat (first | (with_reducible first | exact HB.out | apply below_alloc | apply pw_below_drewN | apply below_drew1 | refine below_set ?_ GE101.out | refine below_set ?_ GE110.out | refine below_set ?_ GE114.out | refine below_set ?_ GE119.out) | exact HB.out)) hb)
              clear HO_9a
              clear HO_9b
              clear HO_9d
              clear HO123
              clear BK101
              clear BK110
              clear BK114
              clear BK119
              clear HB
              have HO_9a := n0_
              have HO_9b := n1_
              have HO_9d := n2_
              have HO123 := n3_
              have BK101 := n4_
              have BK110 := n5_
              have BK114 := n6_
              have BK119 := n7_
              have HB := n8_
              clear n0_ n1_ n2_ n3_ n4_ n5_ n6_ n7_ n8_
              (try clear hb)
              (try clear hb2)
              (try clear hk)
              (try clear hi)
              refine hK.out _ _ ⟨(blk_cell BK114.out 0).trans rfl, (blk_cell BK101.out 0).trans rfl⟩ (fun hHeld => ?_)
              clear hK K
              refine norm_ (a' := ?_) ?_ ?_
              rotate_left
              · show Act.put _ (some 59) _ = _
                simp only [Act.put, List.setIfInBounds_toArray, List.set_cons_zero, List.set_cons_succ, i64_w, i32_w]
                rfl
              refine pure_ (i := 4) (N := some 60) (v := ?_) (a' := ?_) #[true, true, true, true, true] rfl rfl (by kernel_rfl) (fun _ _ _ h => h) (Or.inl ⟨by rfl, ?_⟩) ?_ ?_
              rotate_left
              · intro w'
                go_simp
                with_reducible rfl
              rotate_left
              · simp only [Act.put, List.setIfInBounds_toArray, List.set_cons_zero, List.set_cons_succ, i64_w, i32_w]
                rfl
              refine done_ (by kernel_rfl) ?_
              have hnb70 := NB114_101.out
              have hnc70 := NB101_114.out
              have hnb71 := NB114_110.out
              have hnc71 := NB110_114.out
              have hnb72 := NB114_119.out
              have hnc72 := NB119_114.out
              have hcz73_0 : w69.cell? ⟨gb114, 0, none⟩ = some (.slice Ao31 t111.length co31) := (blk_cell BK114.out 0).trans rfl
              have hfz73_0 := blk_frozen BK114.out 0
              go_upto_region 16 with (first | ((with_reducible refine gate_callee (f := 9) rfl ?_); refine goesL_ (some 63) rfl rfl Try.func9 (by kernel_rfl) rfl #[.agg #[.slice Ao31 t111.length co31], .int .i64 1] rfl (by (try simp only [List.map_toArray, List.map_cons, List.map_nil]); first | done | rfl | (simp only [List.length_drop, List.length_take]; rfl)) ?_; (with_reducible refine (laws_markSeq.calls kj15 (fun k_ => some k_ = (.slice Ao31 t111.length co31 : Value).ownBlock) (.slice Ao31 t111.length co31) t111 1 t125 t126 w _ ?side1 ?side2 A64.out).mono ?_); (case side1 => repeat (first | (with_reducible first | exact HB.out | apply below_alloc | apply pw_below_drewN | apply below_drew1 | refine below_set ?_ GE101.out | refine below_set ?_ GE110.out | refine below_set ?_ GE114.out | refine below_set ?_ GE119.out) | exact HB.out)); (case side2 => exact Kd.R_tight rfl HO_9b.out); rintro e w74 ⟨rfl, hy0, hb, hkp⟩; refine ⟨_, rfl, ?_⟩; have n0_ := mz (Kd.R_mono (ok' := fun k_ => some k_ ≠ (.slice Ao31 t111.length co31 : Value).ownBlock ∧ some k_ ≠ (.slice Ao37 t115.length co37 : Value).ownBlock ∧ some k_ ≠ (.slice Ao68 t121.length co68 : Value).ownBlock) (Kd.R_keptB (HO_9a.out) hkp (fun k_ hk_ hs_ => (hk_.1.1) hs_)) (fun k_ hk_ => ⟨hk_.1.1.1, hk_.1.1.2, hk_.1.2⟩)); have n1_ := mz (Kd.R_reok rfl hy0 (fun k_ e_ => HO_9b.out.1 k_ e_)); have n2_ := mz (Kd.R_mono (ok' := fun k_ => some k_ ≠ (.slice Ao25 t106.length co25 : Value).ownBlock ∧ some k_ ≠ (.slice Ao31 t111.length co31 : Value).ownBlock ∧ some k_ ≠ (.slice Ao68 t121.length co68 : Value).ownBlock) (Kd.R_keptB (HO_9d.out) hkp (fun k_ hk_ hs_ => (hk_.1.2) hs_)) (fun k_ hk_ => ⟨hk_.1.1.1, hk_.1.1.2, hk_.1.2⟩)); have n3_ := mz (blk_kept (by (with_reducible repeat (first | refine blk_drewN ?_ _ | refine blk_drew ?_ | refine blk_alloc ?_ _)); exact BK101.out) hkp (fun hs_ => (fun e_ => (Kd.R_ne HO_9b.out BK101.out (by decide)) e_) hs_)); have n4_ := mz (blk_kept (by (with_reducible repeat (first | refine blk_drewN ?_ _ | refine blk_drew ?_ | refine blk_alloc ?_ _)); exact BK110.out) hkp (fun hs_ => (fun e_ => (Kd.R_ne HO_9b.out BK110.out (by decide)) e_) hs_)); have n5_ := mz (blk_kept (by (with_reducible repeat (first | refine blk_drewN ?_ _ | refine blk_drew ?_ | refine blk_alloc ?_ _)); exact BK114.out) hkp (fun hs_ => (fun e_ => (Kd.R_ne HO_9b.out BK114.out (by decide)) e_) hs_)); have n6_ := mz (blk_kept (by (with_reducible repeat (first | refine blk_drewN ?_ _ | refine blk_drew ?_ | refine blk_alloc ?_ _)); exact BK119.out) hkp (fun hs_ => (fun e_ => (Kd.R_ne HO_9b.out BK119.out (by decide)) e_) hs_)); have n7_ := mz (Kd.R_mono (ok' := fun k_ => some k_ ≠ (.slice Ao25 t106.length co25 : Value).ownBlock ∧ some k_ ≠ (.slice Ao31 t111.length co31 : Value).ownBlock ∧ some k_ ≠ (.slice Ao37 t115.length co37 : Value).ownBlock) (Kd.R_keptB (HO123.out) hkp (fun k_ hk_ hs_ => (hk_.1.2) hs_)) (fun k_ hk_ => ⟨hk_.1.1.1.2, hk_.1.1.2, hk_.1.2⟩)); have n8_ := mz (hb); clear HO_9a; clear HO_9b; clear HO_9d; clear BK101; clear BK110; clear BK114; clear BK119; clear HO123; clear HB; have HO_9a := n0_; have HO_9b := n1_; have HO_9d := n2_; have BK101 := n3_; have BK110 := n4_; have BK114 := n5_; have BK119 := n6_; have HO123 := n7_; have HB := n8_; clear n0_ n1_ n2_ n3_ n4_ n5_ n6_ n7_ n8_; (try clear hb); (try clear hkp); (try clear hy0)))
              (try simp only [Act.put, List.setIfInBounds_toArray, List.set_cons_zero, List.set_cons_succ])
              go_cut [76] (fun v76 wc => ∃ (kq : Nat) (x76_64 : Bool), v76 = .bool x76_64 ∧ Aside0 (laws_FnExactPutAtom.j1 kq a1 a2 a3 t109 x76_64 l0_0 t106 t115 = some r) ∧ Aside0 (kq ≤ kj15) ∧ Aside0 (Kd.R k41 41 wc w.heap.size (fun k_ => some k_ ≠ ((.slice Ao31 t111.length co31) : Value).ownBlock ∧ some k_ ≠ ((.slice Ao37 t115.length co37) : Value).ownBlock) (.slice Ao25 t106.length co25) t106) ∧ Aside0 (Kd.R k41 41 wc w.heap.size (fun k_ => some k_ ≠ ((.slice Ao25 t106.length co25) : Value).ownBlock ∧ some k_ ≠ ((.slice Ao37 t115.length co37) : Value).ownBlock) (.slice Ao31 t111.length co31) t126) ∧ Aside0 (Kd.R k41 41 wc w.heap.size (fun k_ => some k_ ≠ ((.slice Ao25 t106.length co25) : Value).ownBlock ∧ some k_ ≠ ((.slice Ao31 t111.length co31) : Value).ownBlock) (.slice Ao37 t115.length co37) t115) ∧ Aside0 (wc.heap[gb101]? = some (.cells #[(.slice A0_0 l0_0.length c0_0)] 24 (0, 0))) ∧ Aside0 (wc.heap[gb110]? = some (.cells #[(.slice Ao25 t106.length co25)] 28 (0, 0))) ∧ Aside0 (wc.heap[gb114]? = some (.cells #[(.slice Ao31 t111.length co31)] 28 (0, 0))) ∧ Aside0 (wc.heap[gb119]? = some (.cells #[(.slice Ao37 t115.length co37)] 28 (0, 0))) ∧ Aside0 (Below w.heap.size w wc))
              case first =>
                have H := HC65.out
                clear HC65
                by_cases c75 : t125 < 0
                · rw [if_pos c75] at H
                  have c75b0 : decide (t125 < 0) = true := decide_eq_true c75
                  clear c75
                  (first | rw [c75b0] | (simp only [i64_w, i32_w]; rw [c75b0]) | skip)
                  have H' := mz H
                  clear H
                  go_wp2
                  go_meet
                  case rel => exact ⟨_, (true), (by first | rfl | (simp; done) | (simp [*]; done)), H', ⟨by have := HJ15.out; first | omega | exact Nat.le_refl _⟩, ⟨by (with_reducible repeat (first | apply Kd.R_alloc | apply Kd.R_drewN | apply Kd.R_drew)); exact Kd.R_mono HO_9a.out (fun _ hk => ⟨hk.1, hk.2.1⟩)⟩, ⟨by (with_reducible repeat (first | apply Kd.R_alloc | apply Kd.R_drewN | apply Kd.R_drew)); exact Kd.R_mono HO_9b.out (fun _ hk => ⟨hk.1.1, hk.1.2⟩)⟩, ⟨by (with_reducible repeat (first | apply Kd.R_alloc | apply Kd.R_drewN | apply Kd.R_drew)); exact Kd.R_mono HO_9d.out (fun _ hk => ⟨hk.1, hk.2.1⟩)⟩, ⟨by (with_reducible repeat (first | refine blk_drewN ?_ _ | refine blk_drew ?_ | refine blk_alloc ?_ _)); exact BK101.out⟩, ⟨by (with_reducible repeat (first | refine blk_drewN ?_ _ | refine blk_drew ?_ | refine blk_alloc ?_ _)); exact BK110.out⟩, ⟨by (with_reducible repeat (first | refine blk_drewN ?_ _ | refine blk_drew ?_ | refine blk_alloc ?_ _)); exact BK114.out⟩, ⟨by (with_reducible repeat (first | refine blk_drewN ?_ _ | refine blk_drew ?_ | refine blk_alloc ?_ _)); exact BK119.out⟩, ⟨by repeat (first | (with_reducible first | exact HB.out | apply below_alloc | apply pw_below_drewN | apply below_drew1 | refine below_set ?_ GE101.out | refine below_set ?_ GE110.out | refine below_set ?_ GE114.out | refine below_set ?_ GE119.out) | exact HB.out)⟩⟩
                · rw [if_neg c75] at H
                  have c75b0 : decide (t125 < 0) = false := decide_eq_false c75
                  clear c75
                  (first | rw [c75b0] | (simp only [i64_w, i32_w]; rw [c75b0]) | skip)
                  replace H := be0_ H
                  obtain ⟨t127, A760, H⟩ := H
                  replace H : (if t127 = true then (laws_FnExactPutAtom.j1 kj15 a1 a2 a3 t109 (t118 != t109) l0_0 t106 t115) else (laws_FnExactPutAtom.j1 kj15 a1 a2 a3 t109 true l0_0 t106 t115)) = some r := H
                  have A76 := mz A760
                  clear A760
                  by_cases c77 : t127 = true
                  · subst c77
                    have H1 : (laws_FnExactPutAtom.j1 kj15 a1 a2 a3 t109 (t118 != t109) l0_0 t106 t115) = some r := by rw [if_pos rfl] at H; exact H
                    clear H
                    have H := H1
                    clear H1
                    have H' := mz H
                    clear H
                    have hnb78 := NB119_101.out
                    have hnc78 := NB101_119.out
                    have hnb79 := NB119_110.out
                    have hnc79 := NB110_119.out
                    have hnb80 := NB119_114.out
                    have hnc80 := NB114_119.out
                    have hcz81_0 : w74.cell? ⟨gb119, 0, none⟩ = some (.slice Ao37 t115.length co37) := (blk_cell BK119.out 0).trans rfl
                    have hfz81_0 := blk_frozen BK119.out 0
                    have hnb82 := NB110_101.out
                    have hnc82 := NB101_110.out
                    have hnb83 := NB110_114.out
                    have hnc83 := NB114_110.out
                    have hcz84_0 : w74.cell? ⟨gb110, 0, none⟩ = some (.slice Ao25 t106.length co25) := (blk_cell BK110.out 0).trans rfl
                    have hfz84_0 := blk_frozen BK110.out 0
                    go_wp2_with (first | (go_at_call 8; (with_reducible refine (laws_eqSeq.calls kj15 _ _ t115 _ _ t106 true _ ?side1 ?side2 ?side3 ?side4 A76.out).mono ?_); (case side1 => repeat (first | exact (Kd.R_reads' HO_9d.out).2.2 | (with_reducible refine Kd.C_alloc ?_ _) | (with_reducible refine Kd.C_drewN ?_ _) | (with_reducible refine Kd.C_drew ?_))); (case side2 => exact (Kd.R_reads' HO_9d.out).2.1); (case side3 => repeat (first | exact (Kd.R_reads' HO_9a.out).2.2 | (with_reducible refine Kd.C_alloc ?_ _) | (with_reducible refine Kd.C_drewN ?_ _) | (with_reducible refine Kd.C_drew ?_))); (case side4 => exact (Kd.R_reads' HO_9a.out).2.1); rintro e w85 ⟨rfl, hb⟩; have n0_ := mz (Kd.R_below (by (with_reducible repeat (first | apply Kd.R_alloc | apply Kd.R_drewN | apply Kd.R_drew)); exact HO_9a.out) hb); have n1_ := mz (Kd.R_below (by (with_reducible repeat (first | apply Kd.R_alloc | apply Kd.R_drewN | apply Kd.R_drew)); exact HO_9b.out) hb); have n2_ := mz (Kd.R_below (by (with_reducible repeat (first | apply Kd.R_alloc | apply Kd.R_drewN | apply Kd.R_drew)); exact HO_9d.out) hb); have n3_ := mz (Kd.R_below (by (with_reducible repeat (first | apply Kd.R_alloc | apply Kd.R_drewN | apply Kd.R_drew)); exact HO123.out) hb); have n4_ := mz (blk_below (g := gb101) (o := .cells #[.slice A0_0 l0_0.length c0_0] 24 (0, 0)) (by (with_reducible repeat (first | refine blk_drewN ?_ _ | refine blk_drew ?_ | refine blk_alloc ?_ _)); exact BK101.out) hb); have n5_ := mz (blk_below (g := gb110) (o := .cells #[.slice Ao25 t106.length co25] 28 (0, 0)) (by (with_reducible repeat (first | refine blk_drewN ?_ _ | refine blk_drew ?_ | refine blk_alloc ?_ _)); exact BK110.out) hb); have n6_ := mz (blk_below (g := gb114) (o := .cells #[.slice Ao31 t111.length co31] 28 (0, 0)) (by (with_reducible repeat (first | refine blk_drewN ?_ _ | refine blk_drew ?_ | refine blk_alloc ?_ _)); exact BK114.out) hb); have n7_ := mz (blk_below (g := gb119) (o := .cells #[.slice Ao37 t115.length co37] 28 (0, 0)) (by (with_reducible repeat (first | refine blk_drewN ?_ _ | refine blk_drew ?_ | refine blk_alloc ?_ _)); exact BK119.out) hb); have n8_ := mz (below_step (by repeat (first | (with_reducible first | exact HB.out | apply below_alloc | apply pw_below_drewN | apply below_drew1 | refine below_set ?_ GE101.out | refine below_set ?_ GE110.out | refine below_set ?_ GE114.out | refine below_set ?_ GE119.out) | exact HB.out)) hb); clear HO_9a; clear HO_9b; clear HO_9d; clear HO123; clear BK101; clear BK110; clear BK114; clear BK119; clear HB; have HO_9a := n0_; have HO_9b := n1_; have HO_9d := n2_; have HO123 := n3_; have BK101 := n4_; have BK110 := n5_; have BK114 := n6_; have BK119 := n7_; have HB := n8_; clear n0_ n1_ n2_ n3_ n4_ n5_ n6_ n7_ n8_; (try clear hb); (try clear hb2); (try clear hk); (try clear hi)))
                    go_meet
                    case rel => exact ⟨_, ((t118 != t109)), (by first | rfl | (simp; done) | (simp [*]; done)), H', ⟨by have := HJ15.out; first | omega | exact Nat.le_refl _⟩, ⟨by (with_reducible repeat (first | apply Kd.R_alloc | apply Kd.R_drewN | apply Kd.R_drew)); exact Kd.R_mono HO_9a.out (fun _ hk => ⟨hk.1, hk.2.1⟩)⟩, ⟨by (with_reducible repeat (first | apply Kd.R_alloc | apply Kd.R_drewN | apply Kd.R_drew)); exact Kd.R_mono HO_9b.out (fun _ hk => ⟨hk.1.1, hk.1.2⟩)⟩, ⟨by (with_reducible repeat (first | apply Kd.R_alloc | apply Kd.R_drewN | apply Kd.R_drew)); exact Kd.R_mono HO_9d.out (fun _ hk => ⟨hk.1, hk.2.1⟩)⟩, ⟨by (with_reducible repeat (first | refine blk_drewN ?_ _ | refine blk_drew ?_ | refine blk_alloc ?_ _)); exact BK101.out⟩, ⟨by (with_reducible repeat (first | refine blk_drewN ?_ _ | refine blk_drew ?_ | refine blk_alloc ?_ _)); exact BK110.out⟩, ⟨by (with_reducible repeat (first | refine blk_drewN ?_ _ | refine blk_drew ?_ | refine blk_alloc ?_ _)); exact BK114.out⟩, ⟨by (with_reducible repeat (first | refine blk_drewN ?_ _ | refine blk_drew ?_ | refine blk_alloc ?_ _)); exact BK119.out⟩, ⟨by repeat (first | (with_reducible first | exact HB.out | apply below_alloc | apply pw_below_drewN | apply below_drew1 | refine below_set ?_ GE101.out | refine below_set ?_ GE110.out | refine below_set ?_ GE114.out | refine below_set ?_ GE119.out) | exact HB.out)⟩⟩
                  · replace c77 := Bool.eq_false_iff.mpr c77
                    subst c77
                    have H1 : (laws_FnExactPutAtom.j1 kj15 a1 a2 a3 t109 true l0_0 t106 t115) = some r := by rw [if_neg (show ¬ (false = true) by decide)] at H; exact H
                    clear H
                    have H := H1
                    clear H1
                    have H' := mz H
                    clear H
                    have hnb86 := NB119_101.out
                    have hnc86 := NB101_119.out
                    have hnb87 := NB119_110.out
                    have hnc87 := NB110_119.out
                    have hnb88 := NB119_114.out
                    have hnc88 := NB114_119.out
                    have hcz89_0 : w74.cell? ⟨gb119, 0, none⟩ = some (.slice Ao37 t115.length co37) := (blk_cell BK119.out 0).trans rfl
                    have hfz89_0 := blk_frozen BK119.out 0
                    have hnb90 := NB110_101.out
                    have hnc90 := NB101_110.out
                    have hnb91 := NB110_114.out
                    have hnc91 := NB114_110.out
                    have hcz92_0 : w74.cell? ⟨gb110, 0, none⟩ = some (.slice Ao25 t106.length co25) := (blk_cell BK110.out 0).trans rfl
                    have hfz92_0 := blk_frozen BK110.out 0
                    go_wp2_with (first | (go_at_call 8; (with_reducible refine (laws_eqSeq.calls kj15 _ _ t115 _ _ t106 false _ ?side1 ?side2 ?side3 ?side4 A76.out).mono ?_); (case side1 => repeat (first | exact (Kd.R_reads' HO_9d.out).2.2 | (with_reducible refine Kd.C_alloc ?_ _) | (with_reducible refine Kd.C_drewN ?_ _) | (with_reducible refine Kd.C_drew ?_))); (case side2 => exact (Kd.R_reads' HO_9d.out).2.1); (case side3 => repeat (first | exact (Kd.R_reads' HO_9a.out).2.2 | (with_reducible refine Kd.C_alloc ?_ _) | (with_reducible refine Kd.C_drewN ?_ _) | (with_reducible refine Kd.C_drew ?_))); (case side4 => exact (Kd.R_reads' HO_9a.out).2.1); rintro e w93 ⟨rfl, hb⟩; have n0_ := mz (Kd.R_below (by (with_reducible repeat (first | apply Kd.R_alloc | apply Kd.R_drewN | apply Kd.R_drew)); exact HO_9a.out) hb); have n1_ := mz (Kd.R_below (by (with_reducible repeat (first | apply Kd.R_alloc | apply Kd.R_drewN | apply Kd.R_drew)); exact HO_9b.out) hb); have n2_ := mz (Kd.R_below (by (with_reducible repeat (first | apply Kd.R_alloc | apply Kd.R_drewN | apply Kd.R_drew)); exact HO_9d.out) hb); have n3_ := mz (Kd.R_below (by (with_reducible repeat (first | apply Kd.R_alloc | apply Kd.R_drewN | apply Kd.R_drew)); exact HO123.out) hb); have n4_ := mz (blk_below (g := gb101) (o := .cells #[.slice A0_0 l0_0.length c0_0] 24 (0, 0)) (by (with_reducible repeat (first | refine blk_drewN ?_ _ | refine blk_drew ?_ | refine blk_alloc ?_ _)); exact BK101.out) hb); have n5_ := mz (blk_below (g := gb110) (o := .cells #[.slice Ao25 t106.length co25] 28 (0, 0)) (by (with_reducible repeat (first | refine blk_drewN ?_ _ | refine blk_drew ?_ | refine blk_alloc ?_ _)); exact BK110.out) hb); have n6_ := mz (blk_below (g := gb114) (o := .cells #[.slice Ao31 t111.length co31] 28 (0, 0)) (by (with_reducible repeat (first | refine blk_drewN ?_ _ | refine blk_drew ?_ | refine blk_alloc ?_ _)); exact BK114.out) hb); have n7_ := mz (blk_below (g := gb119) (o := .cells #[.slice Ao37 t115.length co37] 28 (0, 0)) (by (with_reducible repeat (first | refine blk_drewN ?_ _ | refine blk_drew ?_ | refine blk_alloc ?_ _)); exact BK119.out) hb); have n8_ := mz (below_step (by repeat (first | (with_reducible first | exact HB.out | apply below_alloc | apply pw_below_drewN | apply below_drew1 | refine below_set ?_ GE101.out | refine below_set ?_ GE110.out | refine below_set ?_ GE114.out | refine below_set ?_ GE119.out) | exact HB.out)) hb); clear HO_9a; clear HO_9b; clear HO_9d; clear HO123; clear BK101; clear BK110; clear BK114; clear BK119; clear HB; have HO_9a := n0_; have HO_9b := n1_; have HO_9d := n2_; have HO123 := n3_; have BK101 := n4_; have BK110 := n5_; have BK114 := n6_; have BK119 := n7_; have HB := n8_; clear n0_ n1_ n2_ n3_ n4_ n5_ n6_ n7_ n8_; (try clear hb); (try clear hb2); (try clear hk); (try clear hi)))
                    go_meet
                    case rel => exact ⟨_, (true), (by first | rfl | (simp; done) | (simp [*]; done)), H', ⟨by have := HJ15.out; first | omega | exact Nat.le_refl _⟩, ⟨by (with_reducible repeat (first | apply Kd.R_alloc | apply Kd.R_drewN | apply Kd.R_drew)); exact Kd.R_mono HO_9a.out (fun _ hk => ⟨hk.1, hk.2.1⟩)⟩, ⟨by (with_reducible repeat (first | apply Kd.R_alloc | apply Kd.R_drewN | apply Kd.R_drew)); exact Kd.R_mono HO_9b.out (fun _ hk => ⟨hk.1.1, hk.1.2⟩)⟩, ⟨by (with_reducible repeat (first | apply Kd.R_alloc | apply Kd.R_drewN | apply Kd.R_drew)); exact Kd.R_mono HO_9d.out (fun _ hk => ⟨hk.1, hk.2.1⟩)⟩, ⟨by (with_reducible repeat (first | refine blk_drewN ?_ _ | refine blk_drew ?_ | refine blk_alloc ?_ _)); exact BK101.out⟩, ⟨by (with_reducible repeat (first | refine blk_drewN ?_ _ | refine blk_drew ?_ | refine blk_alloc ?_ _)); exact BK110.out⟩, ⟨by (with_reducible repeat (first | refine blk_drewN ?_ _ | refine blk_drew ?_ | refine blk_alloc ?_ _)); exact BK114.out⟩, ⟨by (with_reducible repeat (first | refine blk_drewN ?_ _ | refine blk_drew ?_ | refine blk_alloc ?_ _)); exact BK119.out⟩, ⟨by repeat (first | (with_reducible first | exact HB.out | apply below_alloc | apply pw_below_drewN | apply below_drew1 | refine below_set ?_ GE101.out | refine below_set ?_ GE110.out | refine below_set ?_ GE114.out | refine below_set ?_ GE119.out) | exact HB.out)⟩⟩
              case rest =>
                clear HC65
                try clear c2
                try clear p2
                try clear c3
                try clear c4
                try clear c5
                try clear c5b0
                try clear c5b1
                try clear c6
                try clear c7
                try clear c8
                try clear c8b0
                try clear c9
                try clear c26
                try clear c32
                try clear c33
                try clear c38
                try clear c39
                try clear c40
                try clear c43
                try clear c44
                try clear c45
                try clear c46
                try clear c48
                try clear c49
                try clear c52
                try clear c53
                try clear c54
                try clear c56
                try clear c57
                try clear c60
                try clear c63
                try clear c70
                try clear c71
                try clear c72
                try clear c75
                try clear c75b0
                try clear c77
                try clear c78
                try clear c79
                try clear c80
                try clear c82
                try clear c83
                try clear c86
                try clear c87
                try clear c88
                try clear c90
                try clear c91
                try clear hcz10_0
                try clear hcz18_0
                try clear hcz20_0
                try clear hcz27_0
                try clear hcz28_0
                try clear hcz34_0
                try clear hcz41_0
                try clear hcz47_0
                try clear hcz50_0
                try clear hcz55_0
                try clear hcz58_0
                try clear hcz73_0
                try clear hcz81_0
                try clear hcz84_0
                try clear hcz89_0
                try clear hcz92_0
                try clear hfz10_0
                try clear hfz18_0
                try clear hfz20_0
                try clear hfz27_0
                try clear hfz28_0
                try clear hfz34_0
                try clear hfz41_0
                try clear hfz47_0
                try clear hfz50_0
                try clear hfz55_0
                try clear hfz58_0
                try clear hfz73_0
                try clear hfz81_0
                try clear hfz84_0
                try clear hfz89_0
                try clear hfz92_0
                try clear p2
                obtain ⟨kq, x76_64, rfl, HA, HJ64, HO_9a, HO_9b, HO_9d, BK101, BK110, BK114, BK119, HB⟩ := hcut
                have hl9b_64 := (Kd.R_reads' HO_9b.out).1
                rw [hl9b_64] at HO_9b
                (try simp only [hl9b_64])
                (try simp only [hl9b_64] at BK101)
                (try simp only [hl9b_64] at BK110)
                (try simp only [hl9b_64] at BK114)
                (try simp only [hl9b_64] at BK119)
                (try simp only [hl9b_64] at HO_9a)
                (try simp only [hl9b_64] at HO_9d)
                cases kq with
                | zero => exact absurd HA.out (by simp [laws_FnExactPutAtom.j1])
                | succ kj64 =>
                  have H := HA.out
                  clear HA
                  simp only [laws_FnExactPutAtom.j1] at H
                  by_cases c94 : x76_64 = true
                  · subst c94
                    have H1 : (some false) = some r := by rw [if_pos rfl] at H; exact H
                    clear H
                    have H := H1
                    clear H1
                    obtain rfl := Option.some.inj H
                    go_wp2
                    go_ret
                    exact ⟨by first | rfl | (simp [errW_none, errW_some] <;> rfl) | (simp [*, errW_none, errW_some] <;> rfl), by repeat (first | (with_reducible first | exact HB.out | apply below_alloc | apply pw_below_drewN | apply below_drew1 | refine below_set ?_ GE101.out | refine below_set ?_ GE110.out | refine below_set ?_ GE114.out | refine below_set ?_ GE119.out) | exact HB.out)⟩
                  · replace c94 := Bool.eq_false_iff.mpr c94
                    subst c94
                    have H1 : ((laws_markSeq.f kj64 t115 1).bind fun bt128 => ((laws_heldSeq.f kj64 bt128.2 1).bind fun t130 => (if t130 < 0 then (some false) else (if t130 = bt128.1 then ((laws_toSeq.f kj64 l0_0).bind fun t131 => ((impl_PutAtom.f t131 a1 a2 a3).bind fun bt134 => ((laws_eqSeq.f kj64 bt134.1 t106).bind fun t139 => (if t139 = true then (laws_FnExactPutAtom.j2 kj64 bt128.1 (bt134.2 != t109) bt128.2) else (laws_FnExactPutAtom.j2 kj64 bt128.1 true bt128.2))))) else (some false))))) = some r := by rw [if_neg (show ¬ (false = true) by decide)] at H; exact H
                    clear H
                    have H := H1
                    clear H1
                    replace H := be0_ H
                    obtain ⟨⟨t128, t129⟩, A950, H⟩ := H
                    replace H : ((laws_heldSeq.f kj64 t129 1).bind fun t130 => (if t130 < 0 then (some false) else (if t130 = t128 then ((laws_toSeq.f kj64 l0_0).bind fun t131 => ((impl_PutAtom.f t131 a1 a2 a3).bind fun bt134 => ((laws_eqSeq.f kj64 bt134.1 t106).bind fun t139 => (if t139 = true then (laws_FnExactPutAtom.j2 kj64 t128 (bt134.2 != t109) t129) else (laws_FnExactPutAtom.j2 kj64 t128 true t129))))) else (some false)))) = some r := H
                    have A95 := mz A950
                    clear A950
                    replace H := be0_ H
                    obtain ⟨t130, A960, H⟩ := H
                    replace H : (if t130 < 0 then (some false) else (if t130 = t128 then ((laws_toSeq.f kj64 l0_0).bind fun t131 => ((impl_PutAtom.f t131 a1 a2 a3).bind fun bt134 => ((laws_eqSeq.f kj64 bt134.1 t106).bind fun t139 => (if t139 = true then (laws_FnExactPutAtom.j2 kj64 t128 (bt134.2 != t109) t129) else (laws_FnExactPutAtom.j2 kj64 t128 true t129))))) else (some false))) = some r := H
                    have A96 := mz A960
                    clear A960
                    by_cases c97 : t130 < 0
                    · rw [if_pos c97] at H
                      have c97b0 : decide (t130 < 0) = true := decide_eq_true c97
                      clear c97
                      obtain rfl := Option.some.inj H
                      have hnb98 := NB119_101.out
                      have hnc98 := NB101_119.out
                      have hnb99 := NB119_110.out
                      have hnc99 := NB110_119.out
                      have hnb100 := NB119_114.out
                      have hnc100 := NB114_119.out
                      have hcz101_0 : wc.cell? ⟨gb119, 0, none⟩ = some (.slice Ao37 t115.length co37) := (blk_cell BK119.out 0).trans rfl
                      have hfz101_0 := blk_frozen BK119.out 0
                      go_wp2_with (first | ((with_reducible refine gate_callee (f := 9) rfl ?_); refine goesL_ (some 79) rfl rfl Try.func9 (by kernel_rfl) rfl #[.agg #[.slice Ao37 t115.length co37], .int .i64 1] rfl (by (try simp only [List.map_toArray, List.map_cons, List.map_nil]); first | done | rfl | (simp only [List.length_drop, List.length_take]; rfl)) ?_; (with_reducible refine (laws_markSeq.calls kj64 (fun k_ => some k_ = (.slice Ao37 t115.length co37 : Value).ownBlock) (.slice Ao37 t115.length co37) t115 1 t128 t129 w _ ?side1 ?side2 A95.out).mono ?_); (case side1 => repeat (first | (with_reducible first | exact HB.out | apply below_alloc | apply pw_below_drewN | apply below_drew1 | refine below_set ?_ GE101.out | refine below_set ?_ GE110.out | refine below_set ?_ GE114.out | refine below_set ?_ GE119.out) | exact HB.out)); (case side2 => exact Kd.R_tight rfl HO_9d.out); rintro e w102 ⟨rfl, hy0, hb, hkp⟩; refine ⟨_, rfl, ?_⟩; have n0_ := mz (Kd.R_mono (ok' := fun k_ => some k_ ≠ (.slice Ao31 t126.length co31 : Value).ownBlock ∧ some k_ ≠ (.slice Ao37 t115.length co37 : Value).ownBlock) (Kd.R_keptB (HO_9a.out) hkp (fun k_ hk_ hs_ => (hk_.2) hs_)) (fun k_ hk_ => ⟨hk_.1.1, hk_.1.2⟩)); have n1_ := mz (Kd.R_mono (ok' := fun k_ => some k_ ≠ (.slice Ao25 t106.length co25 : Value).ownBlock ∧ some k_ ≠ (.slice Ao37 t115.length co37 : Value).ownBlock) (Kd.R_keptB (HO_9b.out) hkp (fun k_ hk_ hs_ => (hk_.2) hs_)) (fun k_ hk_ => ⟨hk_.1.1, hk_.1.2⟩)); have n2_ := mz (Kd.R_reok rfl hy0 (fun k_ e_ => HO_9d.out.1 k_ e_)); have n3_ := mz (blk_kept (by (with_reducible repeat (first | refine blk_drewN ?_ _ | refine blk_drew ?_ | refine blk_alloc ?_ _)); exact BK101.out) hkp (fun hs_ => (fun e_ => (Kd.R_ne HO_9d.out BK101.out (by decide)) e_) hs_)); have n4_ := mz (blk_kept (by (with_reducible repeat (first | refine blk_drewN ?_ _ | refine blk_drew ?_ | refine blk_alloc ?_ _)); exact BK110.out) hkp (fun hs_ => (fun e_ => (Kd.R_ne HO_9d.out BK110.out (by decide)) e_) hs_)); have n5_ := mz (blk_kept (by (with_reducible repeat (first | refine blk_drewN ?_ _ | refine blk_drew ?_ | refine blk_alloc ?_ _)); exact BK114.out) hkp (fun hs_ => (fun e_ => (Kd.R_ne HO_9d.out BK114.out (by decide)) e_) hs_)); have n6_ := mz (blk_kept (by (with_reducible repeat (first | refine blk_drewN ?_ _ | refine blk_drew ?_ | refine blk_alloc ?_ _)); exact BK119.out) hkp (fun hs_ => (fun e_ => (Kd.R_ne HO_9d.out BK119.out (by decide)) e_) hs_)); have n7_ := mz (hb); clear HO_9a; clear HO_9b; clear HO_9d; clear BK101; clear BK110; clear BK114; clear BK119; clear HB; have HO_9a := n0_; have HO_9b := n1_; have HO_9d := n2_; have BK101 := n3_; have BK110 := n4_; have BK114 := n5_; have BK119 := n6_; have HB := n7_; clear n0_ n1_ n2_ n3_ n4_ n5_ n6_ n7_; (try clear hb); (try clear hkp); (try clear hy0); have hcz103_0 : w102.cell? ⟨gb119, 0, none⟩ = some (.slice Ao37 t115.length co37) := (blk_cell BK119.out 0).trans rfl; have hfz103_0 := blk_frozen BK119.out 0) | ((with_reducible refine gate_callee (f := 10) rfl ?_); refine goesL_ (some 82) rfl rfl Try.func10 (by kernel_rfl) rfl #[.agg #[.slice Ao37 t129.length co37], .int .i64 1] rfl (by (try simp only [List.map_toArray, List.map_cons, List.map_nil]); first | done | (rw [show t129.length = t115.length from (Kd.R_reads' HO_9d.out).1.symm] <;> rfl) | rfl | (simp only [List.length_drop, List.length_take]; rfl)) ?_; (with_reducible refine (laws_heldSeq.calls kj64 _ _ t129 1 t130 _ ?side1 ?side2 A96.out).mono ?_); (case side1 => repeat (first | exact (Kd.R_reads' HO_9d.out).2.2 | (with_reducible refine Kd.C_alloc ?_ _) | (with_reducible refine Kd.C_drewN ?_ _) | (with_reducible refine Kd.C_drew ?_))); (case side2 => rw [show t129.length = t115.length from (Kd.R_reads' HO_9d.out).1.symm]; exact (Kd.R_reads' HO_9d.out).2.1); rintro e w104 ⟨rfl, hb⟩; refine ⟨_, rfl, ?_⟩; have n0_ := mz (Kd.R_below (by (with_reducible repeat (first | apply Kd.R_alloc | apply Kd.R_drewN | apply Kd.R_drew)); exact HO_9a.out) hb); have n1_ := mz (Kd.R_below (by (with_reducible repeat (first | apply Kd.R_alloc | apply Kd.R_drewN | apply Kd.R_drew)); exact HO_9b.out) hb); have n2_ := mz (Kd.R_below (by (with_reducible repeat (first | apply Kd.R_alloc | apply Kd.R_drewN | apply Kd.R_drew)); exact HO_9d.out) hb); have n3_ := mz (blk_below (g := gb101) (o := .cells #[.slice A0_0 l0_0.length c0_0] 24 (0, 0)) (by (with_reducible repeat (first | refine blk_drewN ?_ _ | refine blk_drew ?_ | refine blk_alloc ?_ _)); exact BK101.out) hb); have n4_ := mz (blk_below (g := gb110) (o := .cells #[.slice Ao25 t106.length co25] 28 (0, 0)) (by (with_reducible repeat (first | refine blk_drewN ?_ _ | refine blk_drew ?_ | refine blk_alloc ?_ _)); exact BK110.out) hb); have n5_ := mz (blk_below (g := gb114) (o := .cells #[.slice Ao31 t126.length co31] 28 (0, 0)) (by (with_reducible repeat (first | refine blk_drewN ?_ _ | refine blk_drew ?_ | refine blk_alloc ?_ _)); exact BK114.out) hb); have n6_ := mz (blk_below (g := gb119) (o := .cells #[.slice Ao37 t115.length co37] 28 (0, 0)) (by (with_reducible repeat (first | refine blk_drewN ?_ _ | refine blk_drew ?_ | refine blk_alloc ?_ _)); exact BK119.out) hb); have n7_ := mz (below_step (by repeat (first | (with_reducible first | exact HB.out | apply below_alloc | apply pw_below_drewN | apply below_drew1 | refine below_set ?_ GE101.out | refine below_set ?_ GE110.out | refine below_set ?_ GE114.out | refine below_set ?_ GE119.out) | exact HB.out)) hb); clear HO_9a; clear HO_9b; clear HO_9d; clear BK101; clear BK110; clear BK114; clear BK119; clear HB; have HO_9a := n0_; have HO_9b := n1_; have HO_9d := n2_; have BK101 := n3_; have BK110 := n4_; have BK114 := n5_; have BK119 := n6_; have HB := n7_; clear n0_ n1_ n2_ n3_ n4_ n5_ n6_ n7_; (try clear hb); (try clear hb2); (try clear hk); (try clear hi)))
                      go_ret
                      exact ⟨by first | rfl | (simp [errW_none, errW_some] <;> rfl) | (simp [*, errW_none, errW_some] <;> rfl), by repeat (first | (with_reducible first | exact HB.out | apply below_alloc | apply pw_below_drewN | apply below_drew1 | refine below_set ?_ GE101.out | refine below_set ?_ GE110.out | refine below_set ?_ GE114.out | refine below_set ?_ GE119.out) | exact HB.out)⟩
                    · rw [if_neg c97] at H
                      have c97b0 : decide (t130 < 0) = false := decide_eq_false c97
                      clear c97
                      by_cases c105 : t130 = t128
                      · rw [if_pos c105] at H
                        have c105b0 : (t130 == t128) = true := beq_iff_eq.mpr c105
                        have c105b1 : (t130 != t128) = false := bne_eq_false_iff_eq.mpr c105
                        clear c105
                        replace H := be0_ H
                        obtain ⟨t131, A1060, H⟩ := H
                        replace H : ((impl_PutAtom.f t131 a1 a2 a3).bind fun bt134 => ((laws_eqSeq.f kj64 bt134.1 t106).bind fun t139 => (if t139 = true then (laws_FnExactPutAtom.j2 kj64 t128 (bt134.2 != t109) t129) else (laws_FnExactPutAtom.j2 kj64 t128 true t129)))) = some r := H
                        have A106 := mz A1060
                        clear A1060
                        replace H := be0_ H
                        obtain ⟨⟨t134, t137⟩, A1070, H⟩ := H
                        replace H : ((laws_eqSeq.f kj64 t134 t106).bind fun t139 => (if t139 = true then (laws_FnExactPutAtom.j2 kj64 t128 (t137 != t109) t129) else (laws_FnExactPutAtom.j2 kj64 t128 true t129))) = some r := H
                        have A107 := mz A1070
                        clear A1070
                        have HC108 := mz H
                        clear H
                        have hnb109 := NB119_101.out
                        have hnc109 := NB101_119.out
                        have hnb110 := NB119_110.out
                        have hnc110 := NB110_119.out
                        have hnb111 := NB119_114.out
                        have hnc111 := NB114_119.out
                        have hcz112_0 : wc.cell? ⟨gb119, 0, none⟩ = some (.slice Ao37 t115.length co37) := (blk_cell BK119.out 0).trans rfl
                        have hfz112_0 := blk_frozen BK119.out 0
                        go_upto_region 27 with (first | ((with_reducible refine gate_callee (f := 9) rfl ?_); refine goesL_ (some 79) rfl rfl Try.func9 (by kernel_rfl) rfl #[.agg #[.slice Ao37 t115.length co37], .int .i64 1] rfl (by (try simp only [List.map_toArray, List.map_cons, List.map_nil]); first | done | rfl | (simp only [List.length_drop, List.length_take]; rfl)) ?_; (with_reducible refine (laws_markSeq.calls kj64 (fun k_ => some k_ = (.slice Ao37 t115.length co37 : Value).ownBlock) (.slice Ao37 t115.length co37) t115 1 t128 t129 w _ ?side1 ?side2 A95.out).mono ?_); (case side1 => repeat (first | (with_reducible first | exact HB.out | apply below_alloc | apply pw_below_drewN | apply below_drew1 | refine below_set ?_ GE101.out | refine below_set ?_ GE110.out | refine below_set ?_ GE114.out | refine below_set ?_ GE119.out) | exact HB.out)); (case side2 => exact Kd.R_tight rfl HO_9d.out); rintro e w113 ⟨rfl, hy0, hb, hkp⟩; refine ⟨_, rfl, ?_⟩; have n0_ := mz (Kd.R_mono (ok' := fun k_ => some k_ ≠ (.slice Ao31 t126.length co31 : Value).ownBlock ∧ some k_ ≠ (.slice Ao37 t115.length co37 : Value).ownBlock) (Kd.R_keptB (HO_9a.out) hkp (fun k_ hk_ hs_ => (hk_.2) hs_)) (fun k_ hk_ => ⟨hk_.1.1, hk_.1.2⟩)); have n1_ := mz (Kd.R_mono (ok' := fun k_ => some k_ ≠ (.slice Ao25 t106.length co25 : Value).ownBlock ∧ some k_ ≠ (.slice Ao37 t115.length co37 : Value).ownBlock) (Kd.R_keptB (HO_9b.out) hkp (fun k_ hk_ hs_ => (hk_.2) hs_)) (fun k_ hk_ => ⟨hk_.1.1, hk_.1.2⟩)); have n2_ := mz (Kd.R_reok rfl hy0 (fun k_ e_ => HO_9d.out.1 k_ e_)); have n3_ := mz (blk_kept (by (with_reducible repeat (first | refine blk_drewN ?_ _ | refine blk_drew ?_ | refine blk_alloc ?_ _)); exact BK101.out) hkp (fun hs_ => (fun e_ => (Kd.R_ne HO_9d.out BK101.out (by decide)) e_) hs_)); have n4_ := mz (blk_kept (by (with_reducible repeat (first | refine blk_drewN ?_ _ | refine blk_drew ?_ | refine blk_alloc ?_ _)); exact BK110.out) hkp (fun hs_ => (fun e_ => (Kd.R_ne HO_9d.out BK110.out (by decide)) e_) hs_)); have n5_ := mz (blk_kept (by (with_reducible repeat (first | refine blk_drewN ?_ _ | refine blk_drew ?_ | refine blk_alloc ?_ _)); exact BK114.out) hkp (fun hs_ => (fun e_ => (Kd.R_ne HO_9d.out BK114.out (by decide)) e_) hs_)); have n6_ := mz (blk_kept (by (with_reducible repeat (first | refine blk_drewN ?_ _ | refine blk_drew ?_ | refine blk_alloc ?_ _)); exact BK119.out) hkp (fun hs_ => (fun e_ => (Kd.R_ne HO_9d.out BK119.out (by decide)) e_) hs_)); have n7_ := mz (hb); clear HO_9a; clear HO_9b; clear HO_9d; clear BK101; clear BK110; clear BK114; clear BK119; clear HB; have HO_9a := n0_; have HO_9b := n1_; have HO_9d := n2_; have BK101 := n3_; have BK110 := n4_; have BK114 := n5_; have BK119 := n6_; have HB := n7_; clear n0_ n1_ n2_ n3_ n4_ n5_ n6_ n7_; (try clear hb); (try clear hkp); (try clear hy0); have hcz114_0 : w113.cell? ⟨gb119, 0, none⟩ = some (.slice Ao37 t115.length co37) := (blk_cell BK119.out 0).trans rfl; have hfz114_0 := blk_frozen BK119.out 0) | ((with_reducible refine gate_callee (f := 10) rfl ?_); refine goesL_ (some 82) rfl rfl Try.func10 (by kernel_rfl) rfl #[.agg #[.slice Ao37 t129.length co37], .int .i64 1] rfl (by (try simp only [List.map_toArray, List.map_cons, List.map_nil]); first | done | (rw [show t129.length = t115.length from (Kd.R_reads' HO_9d.out).1.symm] <;> rfl) | rfl | (simp only [List.length_drop, List.length_take]; rfl)) ?_; (with_reducible refine (laws_heldSeq.calls kj64 _ _ t129 1 t130 _ ?side1 ?side2 A96.out).mono ?_); (case side1 => repeat (first | exact (Kd.R_reads' HO_9d.out).2.2 | (with_reducible refine Kd.C_alloc ?_ _) | (with_reducible refine Kd.C_drewN ?_ _) | (with_reducible refine Kd.C_drew ?_))); (case side2 => rw [show t129.length = t115.length from (Kd.R_reads' HO_9d.out).1.symm]; exact (Kd.R_reads' HO_9d.out).2.1); rintro e w115 ⟨rfl, hb⟩; refine ⟨_, rfl, ?_⟩; have n0_ := mz (Kd.R_below (by (with_reducible repeat (first | apply Kd.R_alloc | apply Kd.R_drewN | apply Kd.R_drew)); exact HO_9a.out) hb); have n1_ := mz (Kd.R_below (by (with_reducible repeat (first | apply Kd.R_alloc | apply Kd.R_drewN | apply Kd.R_drew)); exact HO_9b.out) hb); have n2_ := mz (Kd.R_below (by (with_reducible repeat (first | apply Kd.R_alloc | apply Kd.R_drewN | apply Kd.R_drew)); exact HO_9d.out) hb); have n3_ := mz (blk_below (g := gb101) (o := .cells #[.slice A0_0 l0_0.length c0_0] 24 (0, 0)) (by (with_reducible repeat (first | refine blk_drewN ?_ _ | refine blk_drew ?_ | refine blk_alloc ?_ _)); exact BK101.out) hb); have n4_ := mz (blk_below (g := gb110) (o := .cells #[.slice Ao25 t106.length co25] 28 (0, 0)) (by (with_reducible repeat (first | refine blk_drewN ?_ _ | refine blk_drew ?_ | refine blk_alloc ?_ _)); exact BK110.out) hb); have n5_ := mz (blk_below (g := gb114) (o := .cells #[.slice Ao31 t126.length co31] 28 (0, 0)) (by (with_reducible repeat (first | refine blk_drewN ?_ _ | refine blk_drew ?_ | refine blk_alloc ?_ _)); exact BK114.out) hb); have n6_ := mz (blk_below (g := gb119) (o := .cells #[.slice Ao37 t115.length co37] 28 (0, 0)) (by (with_reducible repeat (first | refine blk_drewN ?_ _ | refine blk_drew ?_ | refine blk_alloc ?_ _)); exact BK119.out) hb); have n7_ := mz (below_step (by repeat (first | (with_reducible first | exact HB.out | apply below_alloc | apply pw_below_drewN | apply below_drew1 | refine below_set ?_ GE101.out | refine below_set ?_ GE110.out | refine below_set ?_ GE114.out | refine below_set ?_ GE119.out) | exact HB.out)) hb); clear HO_9a; clear HO_9b; clear HO_9d; clear BK101; clear BK110; clear BK114; clear BK119; clear HB; have HO_9a := n0_; have HO_9b := n1_; have HO_9d := n2_; have BK101 := n3_; have BK110 := n4_; have BK114 := n5_; have BK119 := n6_; have HB := n7_; clear n0_ n1_ n2_ n3_ n4_ n5_ n6_ n7_; (try clear hb); (try clear hb2); (try clear hk); (try clear hi); have hnb116 := NB101_110.out; have hnc116 := NB110_101.out; have hnb117 := NB101_114.out; have hnc117 := NB114_101.out; have hcz118_0 : w115.cell? ⟨gb101, 0, none⟩ = some (.slice A0_0 l0_0.length c0_0) := (blk_cell BK101.out 0).trans rfl; have hfz118_0 := blk_frozen BK101.out 0) | ((with_reducible refine gate_callee (f := 6) rfl ?_); refine goesL_ (some 90) rfl rfl Try.func6 (by kernel_rfl) rfl #[.agg #[.slice A0_0 l0_0.length c0_0]] rfl (by (try simp only [List.map_toArray, List.map_cons, List.map_nil]); first | done | rfl | (simp only [List.length_drop, List.length_take]; rfl)) ?_; (with_reducible refine (laws_toSeq.calls kj64 _ _ l0_0 t131 _ ?side1 ?side2 A106.out).mono ?_); (case side1 => repeat (first | exact (Kd.C_below HR0_0.out HB.out) | (with_reducible refine Kd.C_alloc ?_ _) | (with_reducible refine Kd.C_drewN ?_ _) | (with_reducible refine Kd.C_drew ?_))); (case side2 => exact HC0_0.out); rintro e w119 ⟨v132, rfl, ho0, hb⟩; refine ⟨_, rfl, ?_⟩; have n0_ := mz (Kd.R_elder' (by (with_reducible repeat (first | apply Kd.R_alloc | apply Kd.R_drewN | apply Kd.R_drew)); exact HO_9a.out) (Kd.R_base ho0) hb); have n1_ := mz (Kd.R_elder' (by (with_reducible repeat (first | apply Kd.R_alloc | apply Kd.R_drewN | apply Kd.R_drew)); exact HO_9b.out) (Kd.R_base ho0) hb); have n2_ := mz (Kd.R_elder' (by (with_reducible repeat (first | apply Kd.R_alloc | apply Kd.R_drewN | apply Kd.R_drew)); exact HO_9d.out) (Kd.R_base ho0) hb); have n3_ := mz (Kd.R_lower (Kd.R_new' (Kd.R_new' (Kd.R_new' ho0 (Kd.R_lt (by (with_reducible repeat (first | apply Kd.R_alloc | apply Kd.R_drewN | apply Kd.R_drew)); exact HO_9a.out))) (Kd.R_lt (by (with_reducible repeat (first | apply Kd.R_alloc | apply Kd.R_drewN | apply Kd.R_drew)); exact HO_9b.out))) (Kd.R_lt (by (with_reducible repeat (first | apply Kd.R_alloc | apply Kd.R_drewN | apply Kd.R_drew)); exact HO_9d.out))) (below_size (by repeat (first | (with_reducible first | exact HB.out | apply below_alloc | apply pw_below_drewN | apply below_drew1 | refine below_set ?_ GE101.out | refine below_set ?_ GE110.out | refine below_set ?_ GE114.out | refine below_set ?_ GE119.out) | exact HB.out)))); have n4_ := mz (blk_below (g := gb101) (o := .cells #[.slice A0_0 l0_0.length c0_0] 24 (0, 0)) (by (with_reducible repeat (first | refine blk_drewN ?_ _ | refine blk_drew ?_ | refine blk_alloc ?_ _)); exact BK101.out) hb); have n5_ := mz (blk_below (g := gb110) (o := .cells #[.slice Ao25 t106.length co25] 28 (0, 0)) (by (with_reducible repeat (first | refine blk_drewN ?_ _ | refine blk_drew ?_ | refine blk_alloc ?_ _)); exact BK110.out) hb); have n6_ := mz (blk_below (g := gb114) (o := .cells #[.slice Ao31 t126.length co31] 28 (0, 0)) (by (with_reducible repeat (first | refine blk_drewN ?_ _ | refine blk_drew ?_ | refine blk_alloc ?_ _)); exact BK114.out) hb); have n7_ := mz (blk_below (g := gb119) (o := .cells #[.slice Ao37 t115.length co37] 28 (0, 0)) (by (with_reducible repeat (first | refine blk_drewN ?_ _ | refine blk_drew ?_ | refine blk_alloc ?_ _)); exact BK119.out) hb); have n8_ := mz (below_step (by repeat (first | (with_reducible first | exact HB.out | apply below_alloc | apply pw_below_drewN | apply below_drew1 | refine below_set ?_ GE101.out | refine below_set ?_ GE110.out | refine below_set ?_ GE114.out | refine below_set ?_ GE119.out) | exact HB.out)) hb); clear HO_9a; clear HO_9b; clear HO_9d; clear BK101; clear BK110; clear BK114; clear BK119; clear HB; have HO_9a := n0_; have HO_9b := n1_; have HO_9d := n2_; have HO133 := n3_; have BK101 := n4_; have BK110 := n5_; have BK114 := n6_; have BK119 := n7_; have HB := n8_; clear n0_ n1_ n2_ n3_ n4_ n5_ n6_ n7_ n8_; (try clear hb); (try clear hb2); (try clear hk); (try clear hi); (try clear ho0); obtain ⟨Ao120, co120, eo120⟩ := Kd.R_slice HO133.out; subst eo120) | ((with_reducible refine gate_callee (f := 7) rfl ?_); refine goesL_ (some 94) rfl rfl Try.func7 (by kernel_rfl) rfl #[.agg #[.slice Ao120 t131.length co120], .int .i64 a1, .int .i64 a2, .string a3] rfl (by (try simp only [List.map_toArray, List.map_cons, List.map_nil]); first | done | rfl | (simp only [List.length_drop, List.length_take]; rfl)) ?_; (with_reducible refine (impl_PutAtom.calls _ _ t131 a1 a2 a3 t134 t137 _ ?side1 ?side2 A107.out).mono ?_); (case side1 => repeat (first | exact (Kd.R_reads' HO133.out).2.2 | (with_reducible refine Kd.C_alloc ?_ _) | (with_reducible refine Kd.C_drewN ?_ _) | (with_reducible refine Kd.C_drew ?_))); (case side2 => exact (Kd.R_reads' HO133.out).2.1); rintro e w121 ⟨v135, rfl, ho0, hb⟩; refine ⟨_, rfl, ?_⟩; have n0_ := mz (Kd.R_elder' (by (with_reducible repeat (first | apply Kd.R_alloc | apply Kd.R_drewN | apply Kd.R_drew)); exact HO_9a.out) (Kd.R_base ho0) hb); have n1_ := mz (Kd.R_elder' (by (with_reducible repeat (first | apply Kd.R_alloc | apply Kd.R_drewN | apply Kd.R_drew)); exact HO_9b.out) (Kd.R_base ho0) hb); have n2_ := mz (Kd.R_elder' (by (with_reducible repeat (first | apply Kd.R_alloc | apply Kd.R_drewN | apply Kd.R_drew)); exact HO_9d.out) (Kd.R_base ho0) hb); have n3_ := mz (Kd.R_elder' (by (with_reducible repeat (first | apply Kd.R_alloc | apply Kd.R_drewN | apply Kd.R_drew)); exact HO133.out) (Kd.R_base ho0) hb); have n4_ := mz (Kd.R_lower (Kd.R_new' (Kd.R_new' (Kd.R_new' (Kd.R_new' ho0 (Kd.R_lt (by (with_reducible repeat (first | apply Kd.R_alloc | apply Kd.R_drewN | apply Kd.R_drew)); exact HO_9a.out))) (Kd.R_lt (by (with_reducible repeat (first | apply Kd.R_alloc | apply Kd.R_drewN | apply Kd.R_drew)); exact HO_9b.out))) (Kd.R_lt (by (with_reducible repeat (first | apply Kd.R_alloc | apply Kd.R_drewN | apply Kd.R_drew)); exact HO_9d.out))) (Kd.R_lt (by (with_reducible repeat (first | apply Kd.R_alloc | apply Kd.R_drewN | apply Kd.R_drew)); exact HO133.out))) (below_size (by repeat (first | (with_reducible first | exact HB.out | apply below_alloc | apply pw_below_drewN | apply below_drew1 | refine below_set ?_ GE101.out | refine below_set ?_ GE110.out | refine below_set ?_ GE114.out | refine below_set ?_ GE119.out) | exact HB.out)))); have n5_ := mz (blk_below (g := gb101) (o := .cells #[.slice A0_0 l0_0.length c0_0] 24 (0, 0)) (by (with_reducible repeat (first | refine blk_drewN ?_ _ | refine blk_drew ?_ | refine blk_alloc ?_ _)); exact BK101.out) hb); have n6_ := mz (blk_below (g := gb110) (o := .cells #[.slice Ao25 t106.length co25] 28 (0, 0)) (by (with_reducible repeat (first | refine blk_drewN ?_ _ | refine blk_drew ?_ | refine blk_alloc ?_ _)); exact BK110.out) hb); have n7_ := mz (blk_below (g := gb114) (o := .cells #[.slice Ao31 t126.length co31] 28 (0, 0)) (by (with_reducible repeat (first | refine blk_drewN ?_ _ | refine blk_drew ?_ | refine blk_alloc ?_ _)); exact BK114.out) hb); have n8_ := mz (blk_below (g := gb119) (o := .cells #[.slice Ao37 t115.length co37] 28 (0, 0)) (by (with_reducible repeat (first | refine blk_drewN ?_ _ | refine blk_drew ?_ | refine blk_alloc ?_ _)); exact BK119.out) hb); have n9_ := mz (below_step (by repeat (first | (with_reducible first | exact HB.out | apply below_alloc | apply pw_below_drewN | apply below_drew1 | refine below_set ?_ GE101.out | refine below_set ?_ GE110.out | refine below_set ?_ GE114.out | refine below_set ?_ GE119.out) | exact HB.out)) hb); clear HO_9a; clear HO_9b; clear HO_9d; clear HO133; clear BK101; clear BK110; clear BK114; clear BK119; clear HB; have HO_9a := n0_; have HO_9b := n1_; have HO_9d := n2_; have HO133 := n3_; have HO136 := n4_; have BK101 := n5_; have BK110 := n6_; have BK114 := n7_; have BK119 := n8_; have HB := n9_; clear n0_ n1_ n2_ n3_ n4_ n5_ n6_ n7_ n8_ n9_; (try clear hb); (try clear hb2); (try clear hk); (try clear hi); (try clear ho0)) | ((with_reducible refine gate_dst (N := 18) rfl ?_); refine box_event ?hg (N := 18) ?hd (cs := #[.slice none 0 0]) (t := 28) ?hr ?_; (case hd => rfl); (case hg => rfl); (case hr => first | (go_simp; done) | (go_simp; rfl) | (obtain ⟨_, _, e_, _⟩ := OwnRow.slice_ (HO133.out).2; subst e_; first | (go_simp; done) | (go_simp; rfl))); intro gb138 hg w122 hbox hb; have n0_ := mz (Kd.R_below (by (with_reducible repeat (first | apply Kd.R_alloc | apply Kd.R_drewN | apply Kd.R_drew)); exact HO_9a.out) hb); have n1_ := mz (Kd.R_below (by (with_reducible repeat (first | apply Kd.R_alloc | apply Kd.R_drewN | apply Kd.R_drew)); exact HO_9b.out) hb); have n2_ := mz (Kd.R_below (by (with_reducible repeat (first | apply Kd.R_alloc | apply Kd.R_drewN | apply Kd.R_drew)); exact HO_9d.out) hb); have n3_ := mz (Kd.R_below (by (with_reducible repeat (first | apply Kd.R_alloc | apply Kd.R_drewN | apply Kd.R_drew)); exact HO133.out) hb); have n4_ := mz (Kd.R_below (by (with_reducible repeat (first | apply Kd.R_alloc | apply Kd.R_drewN | apply Kd.R_drew)); exact HO136.out) hb); have n5_ := mz (blk_below (g := gb101) (o := .cells #[.slice A0_0 l0_0.length c0_0] 24 (0, 0)) (by (with_reducible repeat (first | refine blk_drewN ?_ _ | refine blk_drew ?_ | refine blk_alloc ?_ _)); exact BK101.out) hb); have n6_ := mz (blk_below (g := gb110) (o := .cells #[.slice Ao25 t106.length co25] 28 (0, 0)) (by (with_reducible repeat (first | refine blk_drewN ?_ _ | refine blk_drew ?_ | refine blk_alloc ?_ _)); exact BK110.out) hb); have n7_ := mz (blk_below (g := gb114) (o := .cells #[.slice Ao31 t126.length co31] 28 (0, 0)) (by (with_reducible repeat (first | refine blk_drewN ?_ _ | refine blk_drew ?_ | refine blk_alloc ?_ _)); exact BK114.out) hb); have n8_ := mz (blk_below (g := gb119) (o := .cells #[.slice Ao37 t115.length co37] 28 (0, 0)) (by (with_reducible repeat (first | refine blk_drewN ?_ _ | refine blk_drew ?_ | refine blk_alloc ?_ _)); exact BK119.out) hb); have n9_ := mz (below_step (by repeat (first | (with_reducible first | exact HB.out | apply below_alloc | apply pw_below_drewN | apply below_drew1 | refine below_set ?_ GE101.out | refine below_set ?_ GE110.out | refine below_set ?_ GE114.out | refine below_set ?_ GE119.out) | exact HB.out)) hb); have n10_ := mz (hbox); have n11_ := mz ((by rw [hg]; exact (below_size (by repeat (first | (with_reducible first | exact HB.out | apply below_alloc | apply pw_below_drewN | apply below_drew1 | refine below_set ?_ GE101.out | refine below_set ?_ GE110.out | refine below_set ?_ GE114.out | refine below_set ?_ GE119.out) | exact HB.out))) : w.heap.size ≤ gb138)); have n12_ := mz ((by rw [hg]; exact (below_size (by repeat (first | (with_reducible first | exact HB.out | apply below_alloc | apply pw_below_drewN | apply below_drew1 | refine below_set ?_ GE101.out | refine below_set ?_ GE110.out | refine below_set ?_ GE114.out | refine below_set ?_ GE119.out) | exact HB.out))) : w.heap.size ≤ gb138)); have n13_ := mz ((by rw [hg]; exact Nat.ne_of_lt (blk_lt (g := gb101) (o := .cells #[.slice A0_0 l0_0.length c0_0] 24 (0, 0)) (by (with_reducible repeat (first | refine blk_drewN ?_ _ | refine blk_drew ?_ | refine blk_alloc ?_ _)); exact BK101.out)) : gb101 ≠ gb138)); have n14_ := mz ((by rw [hg]; exact Nat.ne_of_gt (blk_lt (g := gb101) (o := .cells #[.slice A0_0 l0_0.length c0_0] 24 (0, 0)) (by (with_reducible repeat (first | refine blk_drewN ?_ _ | refine blk_drew ?_ | refine blk_alloc ?_ _)); exact BK101.out)) : gb138 ≠ gb101)); have n15_ := mz ((by rw [hg]; exact Nat.ne_of_lt (blk_lt (g := gb110) (o := .cells #[.slice Ao25 t106.length co25] 28 (0, 0)) (by (with_reducible repeat (first | refine blk_drewN ?_ _ | refine blk_drew ?_ | refine blk_alloc ?_ _)); exact BK110.out)) : gb110 ≠ gb138)); have n16_ := mz ((by rw [hg]; exact Nat.ne_of_gt (blk_lt (g := gb110) (o := .cells #[.slice Ao25 t106.length co25] 28 (0, 0)) (by (with_reducible repeat (first | refine blk_drewN ?_ _ | refine blk_drew ?_ | refine blk_alloc ?_ _)); exact BK110.out)) : gb138 ≠ gb110)); have n17_ := mz ((by rw [hg]; exact Nat.ne_of_lt (blk_lt (g := gb114) (o := .cells #[.slice Ao31 t126.length co31] 28 (0, 0)) (by (with_reducible repeat (first | refine blk_drewN ?_ _ | refine blk_drew ?_ | refine blk_alloc ?_ _)); exact BK114.out)) : gb114 ≠ gb138)); have n18_ := mz ((by rw [hg]; exact Nat.ne_of_gt (blk_lt (g := gb114) (o := .cells #[.slice Ao31 t126.length co31] 28 (0, 0)) (by (with_reducible repeat (first | refine blk_drewN ?_ _ | refine blk_drew ?_ | refine blk_alloc ?_ _)); exact BK114.out)) : gb138 ≠ gb114)); have n19_ := mz ((by rw [hg]; exact Nat.ne_of_lt (blk_lt (g := gb119) (o := .cells #[.slice Ao37 t115.length co37] 28 (0, 0)) (by (with_reducible repeat (first | refine blk_drewN ?_ _ | refine blk_drew ?_ | refine blk_alloc ?_ _)); exact BK119.out)) : gb119 ≠ gb138)); have n20_ := mz ((by rw [hg]; exact Nat.ne_of_gt (blk_lt (g := gb119) (o := .cells #[.slice Ao37 t115.length co37] 28 (0, 0)) (by (with_reducible repeat (first | refine blk_drewN ?_ _ | refine blk_drew ?_ | refine blk_alloc ?_ _)); exact BK119.out)) : gb138 ≠ gb119)); clear HO_9a; clear HO_9b; clear HO_9d; clear HO133; clear HO136; clear BK101; clear BK110; clear BK114; clear BK119; clear HB; have HO_9a := n0_; have HO_9b := n1_; have HO_9d := n2_; have HO133 := n3_; have HO136 := n4_; have BK101 := n5_; have BK110 := n6_; have BK114 := n7_; have BK119 := n8_; have HB := n9_; have BK138 := n10_; have GW138 := n11_; have GE138 := n12_; have NB101_138 := n13_; have NB138_101 := n14_; have NB110_138 := n15_; have NB138_110 := n16_; have NB114_138 := n17_; have NB138_114 := n18_; have NB119_138 := n19_; have NB138_119 := n20_; clear n0_ n1_ n2_ n3_ n4_ n5_ n6_ n7_ n8_ n9_ n10_ n11_ n12_ n13_ n14_ n15_ n16_ n17_ n18_ n19_ n20_; clear hb hbox hg; obtain ⟨Ao123, co123, eo123⟩ := Kd.R_slice HO136.out; subst eo123; have hnb124 := NB138_101.out; have hnc124 := NB101_138.out; have hnb125 := NB138_110.out; have hnc125 := NB110_138.out; have hnb126 := NB138_114.out; have hnc126 := NB114_138.out; have hnb127 := NB138_119.out; have hnc127 := NB119_138.out; have hcz128_0 : w122.cell? ⟨gb138, 0, none⟩ = some (.slice none 0 0) := (blk_cell BK138.out 0).trans rfl; have hfz128_0 := blk_frozen BK138.out 0))
                        (try simp only [Act.put, List.setIfInBounds_toArray, List.set_cons_zero, List.set_cons_succ])
                        go_cut [105] (fun v105 wc => ∃ (kq : Nat) (x105_107 : Bool), v105 = .bool x105_107 ∧ Aside0 (laws_FnExactPutAtom.j2 kq t128 x105_107 t129 = some r) ∧ Aside0 (kq ≤ kj64) ∧ Aside0 (Kd.R k41 41 wc w.heap.size (fun k_ => some k_ ≠ ((.slice Ao31 t126.length co31) : Value).ownBlock ∧ some k_ ≠ ((.slice Ao37 t115.length co37) : Value).ownBlock ∧ some k_ ≠ ((.slice Ao123 t134.length co123) : Value).ownBlock) (.slice Ao25 t106.length co25) t106) ∧ Aside0 (Kd.R k41 41 wc w.heap.size (fun k_ => some k_ ≠ ((.slice Ao25 t106.length co25) : Value).ownBlock ∧ some k_ ≠ ((.slice Ao37 t115.length co37) : Value).ownBlock ∧ some k_ ≠ ((.slice Ao123 t134.length co123) : Value).ownBlock) (.slice Ao31 t126.length co31) t126) ∧ Aside0 (Kd.R k41 41 wc w.heap.size (fun k_ => some k_ ≠ ((.slice Ao25 t106.length co25) : Value).ownBlock ∧ some k_ ≠ ((.slice Ao31 t126.length co31) : Value).ownBlock ∧ some k_ ≠ ((.slice Ao123 t134.length co123) : Value).ownBlock) (.slice Ao37 t115.length co37) t129) ∧ Aside0 (Kd.R k41 41 wc w.heap.size (fun k_ => some k_ ≠ ((.slice Ao25 t106.length co25) : Value).ownBlock ∧ some k_ ≠ ((.slice Ao31 t126.length co31) : Value).ownBlock ∧ some k_ ≠ ((.slice Ao37 t115.length co37) : Value).ownBlock) (.slice Ao123 t134.length co123) t134) ∧ Aside0 (wc.heap[gb101]? = some (.cells #[(.slice A0_0 l0_0.length c0_0)] 24 (0, 0))) ∧ Aside0 (wc.heap[gb110]? = some (.cells #[(.slice Ao25 t106.length co25)] 28 (0, 0))) ∧ Aside0 (wc.heap[gb114]? = some (.cells #[(.slice Ao31 t126.length co31)] 28 (0, 0))) ∧ Aside0 (wc.heap[gb119]? = some (.cells #[(.slice Ao37 t115.length co37)] 28 (0, 0))) ∧ Aside0 (wc.heap[gb138]? = some (.cells #[(.slice Ao123 t134.length co123)] 28 (0, 0))) ∧ Aside0 (Below w.heap.size w wc))
                        case first =>
                          have H := HC108.out
                          clear HC108
                          replace H := be0_ H
                          obtain ⟨t139, A1290, H⟩ := H
                          replace H : (if t139 = true then (laws_FnExactPutAtom.j2 kj64 t128 (t137 != t109) t129) else (laws_FnExactPutAtom.j2 kj64 t128 true t129)) = some r := H
                          have A129 := mz A1290
                          clear A1290
                          by_cases c130 : t139 = true
                          · subst c130
                            have H1 : (laws_FnExactPutAtom.j2 kj64 t128 (t137 != t109) t129) = some r := by rw [if_pos rfl] at H; exact H
                            clear H
                            have H := H1
                            clear H1
                            have H' := mz H
                            clear H
                            have hnb131 := NB138_101.out
                            have hnc131 := NB101_138.out
                            have hnb132 := NB138_110.out
                            have hnc132 := NB110_138.out
                            have hnb133 := NB138_114.out
                            have hnc133 := NB114_138.out
                            have hnb134 := NB138_119.out
                            have hnc134 := NB119_138.out
                            have hcz135_0 : w122.cell? ⟨gb138, 0, none⟩ = some (.slice none 0 0) := (blk_cell BK138.out 0).trans rfl
                            have hfz135_0 := blk_frozen BK138.out 0
                            have hnb136 := NB110_101.out
                            have hnc136 := NB101_110.out
                            have hnb137 := NB110_114.out
                            have hnc137 := NB114_110.out
                            have hnb138 := NB110_119.out
                            have hnc138 := NB119_110.out
                            have hcz139_0 : w122.cell? ⟨gb110, 0, none⟩ = some (.slice Ao25 t106.length co25) := (blk_cell BK110.out 0).trans rfl
                            have hfz139_0 := blk_frozen BK110.out 0
                            go_wp2_with (first | ((with_reducible refine gate_callee (f := 8) rfl ?_); refine goesL_ (some 99) rfl rfl Try.func8 (by kernel_rfl) rfl #[.agg #[.slice Ao123 t134.length co123], .agg #[.slice Ao25 t106.length co25]] rfl (by (try simp only [List.map_toArray, List.map_cons, List.map_nil]); first | done | rfl | (simp only [List.length_drop, List.length_take]; rfl)) ?_; (with_reducible refine (laws_eqSeq.calls kj64 _ _ t134 _ _ t106 true _ ?side1 ?side2 ?side3 ?side4 A129.out).mono ?_); (case side1 => refine (Kd.R_reads' (e := 41) (base := w.heap.size) (ok := fun k_ => ((((True ∧ some k_ ≠ (.slice Ao25 t106.length co25 : Value).ownBlock) ∧ some k_ ≠ (.slice Ao31 t126.length co31 : Value).ownBlock) ∧ some k_ ≠ (.slice Ao37 t115.length co37 : Value).ownBlock) ∧ some k_ ≠ (.slice Ao120 t131.length co120 : Value).ownBlock)) (n := t134.length) (c := co123) ?_).2.2; exact (by (with_reducible repeat (first | apply Kd.R_alloc | apply Kd.R_drewN | apply Kd.R_drew)); exact (Kd.R_mono (Kd.R_far (p := ⟨gb138, 0, none⟩) (Kd.R_types HO136.out BK138.out (by decide)) (fun _ hk => hk.2) (.slice Ao123 t134.length co123)) (fun _ h_ => h_.1)))); (case side2 => exact (Kd.R_reads' HO136.out).2.1); (case side3 => refine (Kd.R_reads' (e := 41) (base := w.heap.size) (ok := fun k_ => (((some k_ ≠ (.slice Ao31 t126.length co31 : Value).ownBlock ∧ some k_ ≠ (.slice Ao37 t115.length co37 : Value).ownBlock) ∧ some k_ ≠ (.slice Ao120 t131.length co120 : Value).ownBlock) ∧ some k_ ≠ (.slice Ao123 t134.length co123 : Value).ownBlock)) (n := t106.length) (c := co25) ?_).2.2; exact (by (with_reducible repeat (first | apply Kd.R_alloc | apply Kd.R_drewN | apply Kd.R_drew)); exact (Kd.R_mono (Kd.R_far (p := ⟨gb138, 0, none⟩) (Kd.R_types HO_9a.out BK138.out (by decide)) (fun _ hk => hk.2) (.slice Ao123 t134.length co123)) (fun _ h_ => h_.1)))); (case side4 => exact (Kd.R_reads' HO_9a.out).2.1); rintro e w140 ⟨rfl, hb⟩; refine ⟨_, rfl, ?_⟩; have n0_ := mz (Kd.R_below (by (with_reducible repeat (first | apply Kd.R_alloc | apply Kd.R_drewN | apply Kd.R_drew)); exact (Kd.R_mono (Kd.R_far (p := ⟨gb138, 0, none⟩) (Kd.R_types HO_9a.out BK138.out (by decide)) (fun _ hk => hk.2) (.slice Ao123 t134.length co123)) (fun _ h_ => h_.1))) hb); have n1_ := mz (Kd.R_below (by (with_reducible repeat (first | apply Kd.R_alloc | apply Kd.R_drewN | apply Kd.R_drew)); exact (Kd.R_mono (Kd.R_far (p := ⟨gb138, 0, none⟩) (Kd.R_types HO_9b.out BK138.out (by decide)) (fun _ hk => hk.2) (.slice Ao123 t134.length co123)) (fun _ h_ => h_.1))) hb); have n2_ := mz (Kd.R_below (by (with_reducible repeat (first | apply Kd.R_alloc | apply Kd.R_drewN | apply Kd.R_drew)); exact (Kd.R_mono (Kd.R_far (p := ⟨gb138, 0, none⟩) (Kd.R_types HO_9d.out BK138.out (by decide)) (fun _ hk => hk.2) (.slice Ao123 t134.length co123)) (fun _ h_ => h_.1))) hb); have n3_ := mz (Kd.R_below (by (with_reducible repeat (first | apply Kd.R_alloc | apply Kd.R_drewN | apply Kd.R_drew)); exact (Kd.R_mono (Kd.R_far (p := ⟨gb138, 0, none⟩) (Kd.R_types HO133.out BK138.out (by decide)) (fun _ hk => hk.2) (.slice Ao123 t134.length co123)) (fun _ h_ => h_.1))) hb); have n4_ := mz (Kd.R_below (by (with_reducible repeat (first | apply Kd.R_alloc | apply Kd.R_drewN | apply Kd.R_drew)); exact (Kd.R_mono (Kd.R_far (p := ⟨gb138, 0, none⟩) (Kd.R_types HO136.out BK138.out (by decide)) (fun _ hk => hk.2) (.slice Ao123 t134.length co123)) (fun _ h_ => h_.1))) hb); have n5_ := mz (blk_below (g := gb101) (o := .cells #[.slice A0_0 l0_0.length c0_0] 24 (0, 0)) (by (with_reducible repeat (first | refine blk_drewN ?_ _ | refine blk_drew ?_ | refine blk_alloc ?_ _)); refine blk_far ?_ NB101_138.out _; (with_reducible repeat (first | refine blk_drewN ?_ _ | refine blk_drew ?_ | refine blk_alloc ?_ _)); exact BK101.out) hb); have n6_ := mz (blk_below (g := gb110) (o := .cells #[.slice Ao25 t106.length co25] 28 (0, 0)) (by (with_reducible repeat (first | refine blk_drewN ?_ _ | refine blk_drew ?_ | refine blk_alloc ?_ _)); refine blk_far ?_ NB110_138.out _; (with_reducible repeat (first | refine blk_drewN ?_ _ | refine blk_drew ?_ | refine blk_alloc ?_ _)); exact BK110.out) hb); have n7_ := mz (blk_below (g := gb114) (o := .cells #[.slice Ao31 t126.length co31] 28 (0, 0)) (by (with_reducible repeat (first | refine blk_drewN ?_ _ | refine blk_drew ?_ | refine blk_alloc ?_ _)); refine blk_far ?_ NB114_138.out _; (with_reducible repeat (first | refine blk_drewN ?_ _ | refine blk_drew ?_ | refine blk_alloc ?_ _)); exact BK114.out) hb); have n8_ := mz (blk_below (g := gb119) (o := .cells #[.slice Ao37 t115.length co37] 28 (0, 0)) (by (with_reducible repeat (first | refine blk_drewN ?_ _ | refine blk_drew ?_ | refine blk_alloc ?_ _)); refine blk_far ?_ NB119_138.out _; (with_reducible repeat (first | refine blk_drewN ?_ _ | refine blk_drew ?_ | refine blk_alloc ?_ _)); exact BK119.out) hb); have n9_ := mz (blk_below (g := gb138) (o := .cells #[.slice Ao123 t134.length co123] 28 (0, 0)) (by (with_reducible repeat (first | refine blk_drewN ?_ _ | refine blk_drew ?_ | refine blk_alloc ?_ _)); refine blk_put (cs := #[.slice none 0 0]) ?_ 0 _ rfl; (with_reducible repeat (first | refine blk_drewN ?_ _ | refine blk_drew ?_ | refine blk_alloc ?_ _)); exact BK138.out) hb); have n10_ := mz (below_step (by repeat (first | (with_reducible first | exact HB.out | apply below_alloc | apply pw_below_drewN | apply below_drew1 | refine below_set ?_ GE101.out | refine below_set ?_ GE110.out | refine below_set ?_ GE114.out | refine below_set ?_ GE119.out | refine below_set ?_ GE138.out) | exact HB.out)) hb); clear HO_9a; clear HO_9b; clear HO_9d; clear HO133; clear HO136; clear BK101; clear BK110; clear BK114; clear BK119; clear BK138; clear HB; have HO_9a := n0_; have HO_9b := n1_; have HO_9d := n2_; have HO133 := n3_; have HO136 := n4_; have BK101 := n5_; have BK110 := n6_; have BK114 := n7_; have BK119 := n8_; have BK138 := n9_; have HB := n10_; clear n0_ n1_ n2_ n3_ n4_ n5_ n6_ n7_ n8_ n9_ n10_; (try clear hb); (try clear hb2); (try clear hk); (try clear hi)))
                            go_meet
                            case rel => exact ⟨_, ((t137 != t109)), (by first | rfl | (simp; done) | (simp [*]; done)), H', ⟨by have := HJ15.out; have := HJ64.out; first | omega | exact Nat.le_refl _⟩, ⟨by (try simp only [hl9b_64]); (with_reducible repeat (first | apply Kd.R_alloc | apply Kd.R_drewN | apply Kd.R_drew)); exact Kd.R_mono HO_9a.out (fun _ hk => ⟨hk.1.1.1, ⟨hk.1.1.2, hk.2⟩⟩)⟩, ⟨by (try simp only [hl9b_64]); (with_reducible repeat (first | apply Kd.R_alloc | apply Kd.R_drewN | apply Kd.R_drew)); exact Kd.R_mono HO_9b.out (fun _ hk => ⟨hk.1.1.1, ⟨hk.1.1.2, hk.2⟩⟩)⟩, ⟨by (try simp only [hl9b_64]); (with_reducible repeat (first | apply Kd.R_alloc | apply Kd.R_drewN | apply Kd.R_drew)); exact Kd.R_mono HO_9d.out (fun _ hk => ⟨hk.1.1.1, ⟨hk.1.1.2, hk.2⟩⟩)⟩, ⟨by (try simp only [hl9b_64]); (with_reducible repeat (first | apply Kd.R_alloc | apply Kd.R_drewN | apply Kd.R_drew)); exact Kd.R_mono HO136.out (fun _ hk => ⟨hk.1.1.1.2, ⟨hk.1.1.2, hk.1.2⟩⟩)⟩, ⟨by (try simp only [hl9b_64]); (with_reducible repeat (first | refine blk_drewN ?_ _ | refine blk_drew ?_ | refine blk_alloc ?_ _)); exact BK101.out⟩, ⟨by (try simp only [hl9b_64]); (with_reducible repeat (first | refine blk_drewN ?_ _ | refine blk_drew ?_ | refine blk_alloc ?_ _)); exact BK110.out⟩, ⟨by (try simp only [hl9b_64]); (with_reducible repeat (first | refine blk_drewN ?_ _ | refine blk_drew ?_ | refine blk_alloc ?_ _)); exact BK114.out⟩, ⟨by (try simp only [hl9b_64]); (with_reducible repeat (first | refine blk_drewN ?_ _ | refine blk_drew ?_ | refine blk_alloc ?_ _)); exact BK119.out⟩, ⟨by (try simp only [hl9b_64]); (with_reducible repeat (first | refine blk_drewN ?_ _ | refine blk_drew ?_ | refine blk_alloc ?_ _)); exact BK138.out⟩, ⟨by repeat (first | (with_reducible first | exact HB.out | apply below_alloc | apply pw_below_drewN | apply below_drew1 | refine below_set ?_ GE101.out | refine below_set ?_ GE110.out | refine below_set ?_ GE114.out | refine below_set ?_ GE119.out | refine below_set ?_ GE138.out) | exact HB.out)⟩⟩
                          · replace c130 := Bool.eq_false_iff.mpr c130
                            subst c130
                            have H1 : (laws_FnExactPutAtom.j2 kj64 t128 true t129) = some r := by rw [if_neg (show ¬ (false = true) by decide)] at H; exact H
                            clear H
                            have H := H1
                            clear H1
                            have H' := mz H
                            clear H
                            have hnb141 := NB138_101.out
                            have hnc141 := NB101_138.out
                            have hnb142 := NB138_110.out
                            have hnc142 := NB110_138.out
                            have hnb143 := NB138_114.out
                            have hnc143 := NB114_138.out
                            have hnb144 := NB138_119.out
                            have hnc144 := NB119_138.out
                            have hcz145_0 : w122.cell? ⟨gb138, 0, none⟩ = some (.slice none 0 0) := (blk_cell BK138.out 0).trans rfl
                            have hfz145_0 := blk_frozen BK138.out 0
                            have hnb146 := NB110_101.out
                            have hnc146 := NB101_110.out
                            have hnb147 := NB110_114.out
                            have hnc147 := NB114_110.out
                            have hnb148 := NB110_119.out
                            have hnc148 := NB119_110.out
                            have hcz149_0 : w122.cell? ⟨gb110, 0, none⟩ = some (.slice Ao25 t106.length co25) := (blk_cell BK110.out 0).trans rfl
                            have hfz149_0 := blk_frozen BK110.out 0
                            go_wp2_with (first | ((with_reducible refine gate_callee (f := 8) rfl ?_); refine goesL_ (some 99) rfl rfl Try.func8 (by kernel_rfl) rfl #[.agg #[.slice Ao123 t134.length co123], .agg #[.slice Ao25 t106.length co25]] rfl (by (try simp only [List.map_toArray, List.map_cons, List.map_nil]); first | done | rfl | (simp only [List.length_drop, List.length_take]; rfl)) ?_; (with_reducible refine (laws_eqSeq.calls kj64 _ _ t134 _ _ t106 false _ ?side1 ?side2 ?side3 ?side4 A129.out).mono ?_); (case side1 => refine (Kd.R_reads' (e := 41) (base := w.heap.size) (ok := fun k_ => ((((True ∧ some k_ ≠ (.slice Ao25 t106.length co25 : Value).ownBlock) ∧ some k_ ≠ (.slice Ao31 t126.length co31 : Value).ownBlock) ∧ some k_ ≠ (.slice Ao37 t115.length co37 : Value).ownBlock) ∧ some k_ ≠ (.slice Ao120 t131.length co120 : Value).ownBlock)) (n := t134.length) (c := co123) ?_).2.2; exact (by (with_reducible repeat (first | apply Kd.R_alloc | apply Kd.R_drewN | apply Kd.R_drew)); exact (Kd.R_mono (Kd.R_far (p := ⟨gb138, 0, none⟩) (Kd.R_types HO136.out BK138.out (by decide)) (fun _ hk => hk.2) (.slice Ao123 t134.length co123)) (fun _ h_ => h_.1)))); (case side2 => exact (Kd.R_reads' HO136.out).2.1); (case side3 => refine (Kd.R_reads' (e := 41) (base := w.heap.size) (ok := fun k_ => (((some k_ ≠ (.slice Ao31 t126.length co31 : Value).ownBlock ∧ some k_ ≠ (.slice Ao37 t115.length co37 : Value).ownBlock) ∧ some k_ ≠ (.slice Ao120 t131.length co120 : Value).ownBlock) ∧ some k_ ≠ (.slice Ao123 t134.length co123 : Value).ownBlock)) (n := t106.length) (c := co25) ?_).2.2; exact (by (with_reducible repeat (first | apply Kd.R_alloc | apply Kd.R_drewN | apply Kd.R_drew)); exact (Kd.R_mono (Kd.R_far (p := ⟨gb138, 0, none⟩) (Kd.R_types HO_9a.out BK138.out (by decide)) (fun _ hk => hk.2) (.slice Ao123 t134.length co123)) (fun _ h_ => h_.1)))); (case side4 => exact (Kd.R_reads' HO_9a.out).2.1); rintro e w150 ⟨rfl, hb⟩; refine ⟨_, rfl, ?_⟩; have n0_ := mz (Kd.R_below (by (with_reducible repeat (first | apply Kd.R_alloc | apply Kd.R_drewN | apply Kd.R_drew)); exact (Kd.R_mono (Kd.R_far (p := ⟨gb138, 0, none⟩) (Kd.R_types HO_9a.out BK138.out (by decide)) (fun _ hk => hk.2) (.slice Ao123 t134.length co123)) (fun _ h_ => h_.1))) hb); have n1_ := mz (Kd.R_below (by (with_reducible repeat (first | apply Kd.R_alloc | apply Kd.R_drewN | apply Kd.R_drew)); exact (Kd.R_mono (Kd.R_far (p := ⟨gb138, 0, none⟩) (Kd.R_types HO_9b.out BK138.out (by decide)) (fun _ hk => hk.2) (.slice Ao123 t134.length co123)) (fun _ h_ => h_.1))) hb); have n2_ := mz (Kd.R_below (by (with_reducible repeat (first | apply Kd.R_alloc | apply Kd.R_drewN | apply Kd.R_drew)); exact (Kd.R_mono (Kd.R_far (p := ⟨gb138, 0, none⟩) (Kd.R_types HO_9d.out BK138.out (by decide)) (fun _ hk => hk.2) (.slice Ao123 t134.length co123)) (fun _ h_ => h_.1))) hb); have n3_ := mz (Kd.R_below (by (with_reducible repeat (first | apply Kd.R_alloc | apply Kd.R_drewN | apply Kd.R_drew)); exact (Kd.R_mono (Kd.R_far (p := ⟨gb138, 0, none⟩) (Kd.R_types HO133.out BK138.out (by decide)) (fun _ hk => hk.2) (.slice Ao123 t134.length co123)) (fun _ h_ => h_.1))) hb); have n4_ := mz (Kd.R_below (by (with_reducible repeat (first | apply Kd.R_alloc | apply Kd.R_drewN | apply Kd.R_drew)); exact (Kd.R_mono (Kd.R_far (p := ⟨gb138, 0, none⟩) (Kd.R_types HO136.out BK138.out (by decide)) (fun _ hk => hk.2) (.slice Ao123 t134.length co123)) (fun _ h_ => h_.1))) hb); have n5_ := mz (blk_below (g := gb101) (o := .cells #[.slice A0_0 l0_0.length c0_0] 24 (0, 0)) (by (with_reducible repeat (first | refine blk_drewN ?_ _ | refine blk_drew ?_ | refine blk_alloc ?_ _)); refine blk_far ?_ NB101_138.out _; (with_reducible repeat (first | refine blk_drewN ?_ _ | refine blk_drew ?_ | refine blk_alloc ?_ _)); exact BK101.out) hb); have n6_ := mz (blk_below (g := gb110) (o := .cells #[.slice Ao25 t106.length co25] 28 (0, 0)) (by (with_reducible repeat (first | refine blk_drewN ?_ _ | refine blk_drew ?_ | refine blk_alloc ?_ _)); refine blk_far ?_ NB110_138.out _; (with_reducible repeat (first | refine blk_drewN ?_ _ | refine blk_drew ?_ | refine blk_alloc ?_ _)); exact BK110.out) hb); have n7_ := mz (blk_below (g := gb114) (o := .cells #[.slice Ao31 t126.length co31] 28 (0, 0)) (by (with_reducible repeat (first | refine blk_drewN ?_ _ | refine blk_drew ?_ | refine blk_alloc ?_ _)); refine blk_far ?_ NB114_138.out _; (with_reducible repeat (first | refine blk_drewN ?_ _ | refine blk_drew ?_ | refine blk_alloc ?_ _)); exact BK114.out) hb); have n8_ := mz (blk_below (g := gb119) (o := .cells #[.slice Ao37 t115.length co37] 28 (0, 0)) (by (with_reducible repeat (first | refine blk_drewN ?_ _ | refine blk_drew ?_ | refine blk_alloc ?_ _)); refine blk_far ?_ NB119_138.out _; (with_reducible repeat (first | refine blk_drewN ?_ _ | refine blk_drew ?_ | refine blk_alloc ?_ _)); exact BK119.out) hb); have n9_ := mz (blk_below (g := gb138) (o := .cells #[.slice Ao123 t134.length co123] 28 (0, 0)) (by (with_reducible repeat (first | refine blk_drewN ?_ _ | refine blk_drew ?_ | refine blk_alloc ?_ _)); refine blk_put (cs := #[.slice none 0 0]) ?_ 0 _ rfl; (with_reducible repeat (first | refine blk_drewN ?_ _ | refine blk_drew ?_ | refine blk_alloc ?_ _)); exact BK138.out) hb); have n10_ := mz (below_step (by repeat (first | (with_reducible first | exact HB.out | apply below_alloc | apply pw_below_drewN | apply below_drew1 | refine below_set ?_ GE101.out | refine below_set ?_ GE110.out | refine below_set ?_ GE114.out | refine below_set ?_ GE119.out | refine below_set ?_ GE138.out) | exact HB.out)) hb); clear HO_9a; clear HO_9b; clear HO_9d; clear HO133; clear HO136; clear BK101; clear BK110; clear BK114; clear BK119; clear BK138; clear HB; have HO_9a := n0_; have HO_9b := n1_; have HO_9d := n2_; have HO133 := n3_; have HO136 := n4_; have BK101 := n5_; have BK110 := n6_; have BK114 := n7_; have BK119 := n8_; have BK138 := n9_; have HB := n10_; clear n0_ n1_ n2_ n3_ n4_ n5_ n6_ n7_ n8_ n9_ n10_; (try clear hb); (try clear hb2); (try clear hk); (try clear hi)))
                            go_meet
                            case rel => exact ⟨_, (true), (by first | rfl | (simp; done) | (simp [*]; done)), H', ⟨by have := HJ15.out; have := HJ64.out; first | omega | exact Nat.le_refl _⟩, ⟨by (try simp only [hl9b_64]); (with_reducible repeat (first | apply Kd.R_alloc | apply Kd.R_drewN | apply Kd.R_drew)); exact Kd.R_mono HO_9a.out (fun _ hk => ⟨hk.1.1.1, ⟨hk.1.1.2, hk.2⟩⟩)⟩, ⟨by (try simp only [hl9b_64]); (with_reducible repeat (first | apply Kd.R_alloc | apply Kd.R_drewN | apply Kd.R_drew)); exact Kd.R_mono HO_9b.out (fun _ hk => ⟨hk.1.1.1, ⟨hk.1.1.2, hk.2⟩⟩)⟩, ⟨by (try simp only [hl9b_64]); (with_reducible repeat (first | apply Kd.R_alloc | apply Kd.R_drewN | apply Kd.R_drew)); exact Kd.R_mono HO_9d.out (fun _ hk => ⟨hk.1.1.1, ⟨hk.1.1.2, hk.2⟩⟩)⟩, ⟨by (try simp only [hl9b_64]); (with_reducible repeat (first | apply Kd.R_alloc | apply Kd.R_drewN | apply Kd.R_drew)); exact Kd.R_mono HO136.out (fun _ hk => ⟨hk.1.1.1.2, ⟨hk.1.1.2, hk.1.2⟩⟩)⟩, ⟨by (try simp only [hl9b_64]); (with_reducible repeat (first | refine blk_drewN ?_ _ | refine blk_drew ?_ | refine blk_alloc ?_ _)); exact BK101.out⟩, ⟨by (try simp only [hl9b_64]); (with_reducible repeat (first | refine blk_drewN ?_ _ | refine blk_drew ?_ | refine blk_alloc ?_ _)); exact BK110.out⟩, ⟨by (try simp only [hl9b_64]); (with_reducible repeat (first | refine blk_drewN ?_ _ | refine blk_drew ?_ | refine blk_alloc ?_ _)); exact BK114.out⟩, ⟨by (try simp only [hl9b_64]); (with_reducible repeat (first | refine blk_drewN ?_ _ | refine blk_drew ?_ | refine blk_alloc ?_ _)); exact BK119.out⟩, ⟨by (try simp only [hl9b_64]); (with_reducible repeat (first | refine blk_drewN ?_ _ | refine blk_drew ?_ | refine blk_alloc ?_ _)); exact BK138.out⟩, ⟨by repeat (first | (with_reducible first | exact HB.out | apply below_alloc | apply pw_below_drewN | apply below_drew1 | refine below_set ?_ GE101.out | refine below_set ?_ GE110.out | refine below_set ?_ GE114.out | refine below_set ?_ GE119.out | refine below_set ?_ GE138.out) | exact HB.out)⟩⟩
                        case rest =>
                          clear HC108
                          try clear c1
                          try clear c2
                          try clear p2
                          try clear c3
                          try clear c4
                          try clear c5
                          try clear c5b0
                          try clear c5b1
                          try clear c6
                          try clear c7
                          try clear c8
                          try clear c8b0
                          try clear c9
                          try clear c10
                          try clear c11
                          try clear c12
                          try clear c13
                          try clear c14
                          try clear c26
                          try clear c32
                          try clear c33
                          try clear c38
                          try clear c39
                          try clear c40
                          try clear c43
                          try clear c44
                          try clear c45
                          try clear c46
                          try clear c48
                          try clear c49
                          try clear c52
                          try clear c53
                          try clear c54
                          try clear c56
                          try clear c57
                          try clear c60
                          try clear c63
                          try clear c70
                          try clear c71
                          try clear c72
                          try clear c75
                          try clear c75b0
                          try clear c77
                          try clear c78
                          try clear c79
                          try clear c80
                          try clear c82
                          try clear c83
                          try clear c86
                          try clear c87
                          try clear c88
                          try clear c90
                          try clear c91
                          try clear c94
                          try clear c97
                          try clear c97b0
                          try clear c98
                          try clear c99
                          try clear c100
                          try clear c105
                          try clear c105b0
                          try clear c105b1
                          try clear c109
                          try clear c110
                          try clear c111
                          try clear c116
                          try clear c117
                          try clear c124
                          try clear c125
                          try clear c126
                          try clear c127
                          try clear c130
                          try clear c131
                          try clear c132
                          try clear c133
                          try clear c134
                          try clear c136
                          try clear c137
                          try clear c138
                          try clear c141
                          try clear c142
                          try clear c143
                          try clear c144
                          try clear c146
                          try clear c147
                          try clear c148
                          try clear hcz101_0
                          try clear hcz103_0
                          try clear hcz10_0
                          try clear hcz112_0
                          try clear hcz114_0
                          try clear hcz118_0
                          try clear hcz128_0
                          try clear hcz135_0
                          try clear hcz139_0
                          try clear hcz145_0
                          try clear hcz149_0
                          try clear hcz18_0
                          try clear hcz20_0
                          try clear hcz27_0
                          try clear hcz28_0
                          try clear hcz34_0
                          try clear hcz41_0
                          try clear hcz47_0
                          try clear hcz50_0
                          try clear hcz55_0
                          try clear hcz58_0
                          try clear hcz73_0
                          try clear hcz81_0
                          try clear hcz84_0
                          try clear hcz89_0
                          try clear hcz92_0
                          try clear hfz101_0
                          try clear hfz103_0
                          try clear hfz10_0
                          try clear hfz112_0
                          try clear hfz114_0
                          try clear hfz118_0
                          try clear hfz128_0
                          try clear hfz135_0
                          try clear hfz139_0
                          try clear hfz145_0
                          try clear hfz149_0
                          try clear hfz18_0
                          try clear hfz20_0
                          try clear hfz27_0
                          try clear hfz28_0
                          try clear hfz34_0
                          try clear hfz41_0
                          try clear hfz47_0
                          try clear hfz50_0
                          try clear hfz55_0
                          try clear hfz58_0
                          try clear hfz73_0
                          try clear hfz81_0
                          try clear hfz84_0
                          try clear hfz89_0
                          try clear hfz92_0
                          try clear p2
                          obtain ⟨kq, x105_107, rfl, HA, HJ107, HO_9a, HO_9b, HO_9d, HO_139000, BK101, BK110, BK114, BK119, BK138, HB⟩ := hcut
                          have hl9d_107 := (Kd.R_reads' HO_9d.out).1
                          rw [hl9d_107] at HO_9d
                          (try simp only [hl9d_107])
                          (try simp only [hl9d_107] at BK101)
                          (try simp only [hl9d_107] at BK110)
                          (try simp only [hl9d_107] at BK114)
                          (try simp only [hl9d_107] at BK119)
                          (try simp only [hl9d_107] at BK138)
                          (try simp only [hl9d_107] at HO_9a)
                          (try simp only [hl9d_107] at HO_9b)
                          (try simp only [hl9d_107] at HO_139000)
                          cases kq with
                          | zero => exact absurd HA.out (by simp [laws_FnExactPutAtom.j2])
                          | succ kj107 =>
                            have H := HA.out
                            clear HA
                            simp only [laws_FnExactPutAtom.j2] at H
                            by_cases c151 : x105_107 = true
                            · subst c151
                              have H1 : (some false) = some r := by rw [if_pos rfl] at H; exact H
                              clear H
                              have H := H1
                              clear H1
                              obtain rfl := Option.some.inj H
                              go_wp2
                              go_ret
                              exact ⟨by first | rfl | (simp [errW_none, errW_some] <;> rfl) | (simp [*, errW_none, errW_some] <;> rfl), by repeat (first | (with_reducible first | exact HB.out | apply below_alloc | apply pw_below_drewN | apply below_drew1 | refine below_set ?_ GE101.out | refine below_set ?_ GE110.out | refine below_set ?_ GE114.out | refine below_set ?_ GE119.out | refine below_set ?_ GE138.out) | exact HB.out)⟩
                            · replace c151 := Bool.eq_false_iff.mpr c151
                              subst c151
                              have H1 : ((laws_heldSeq.f kj107 t129 1).bind fun t140 => (if t140 < 0 then (some false) else (if t140 = t128 then (some true) else (some false)))) = some r := by rw [if_neg (show ¬ (false = true) by decide)] at H; exact H
                              clear H
                              have H := H1
                              clear H1
                              replace H := be0_ H
                              obtain ⟨t140, A1520, H⟩ := H
                              replace H : (if t140 < 0 then (some false) else (if t140 = t128 then (some true) else (some false))) = some r := H
                              have A152 := mz A1520
                              clear A1520
                              by_cases c153 : t140 < 0
                              · rw [if_pos c153] at H
                                have c153b0 : decide (t140 < 0) = true := decide_eq_true c153
                                clear c153
                                obtain rfl := Option.some.inj H
                                have hnb154 := NB119_101.out
                                have hnc154 := NB101_119.out
                                have hnb155 := NB119_110.out
                                have hnc155 := NB110_119.out
                                have hnb156 := NB119_114.out
                                have hnc156 := NB114_119.out
                                have hnb157 := NB119_138.out
                                have hnc157 := NB138_119.out
                                have hcz158_0 : wc.cell? ⟨gb119, 0, none⟩ = some (.slice Ao37 t129.length co37) := (blk_cell BK119.out 0).trans rfl
                                have hfz158_0 := blk_frozen BK119.out 0
                                go_wp2_with (first | ((with_reducible refine gate_callee (f := 10) rfl ?_); refine goesL_ (some 108) rfl rfl Try.func10 (by kernel_rfl) rfl #[.agg #[.slice Ao37 t129.length co37], .int .i64 1] rfl (by (try simp only [List.map_toArray, List.map_cons, List.map_nil]); first | done | rfl | (simp only [List.length_drop, List.length_take]; rfl)) ?_; (with_reducible refine (laws_heldSeq.calls kj107 _ _ t129 1 t140 _ ?side1 ?side2 A152.out).mono ?_); (case side1 => repeat (first | exact (Kd.R_reads' HO_9d.out).2.2 | (with_reducible refine Kd.C_alloc ?_ _) | (with_reducible refine Kd.C_drewN ?_ _) | (with_reducible refine Kd.C_drew ?_))); (case side2 => exact (Kd.R_reads' HO_9d.out).2.1); rintro e w159 ⟨rfl, hb⟩; refine ⟨_, rfl, ?_⟩; have n0_ := mz (Kd.R_below (by (with_reducible repeat (first | apply Kd.R_alloc | apply Kd.R_drewN | apply Kd.R_drew)); exact HO_9a.out) hb); have n1_ := mz (Kd.R_below (by (with_reducible repeat (first | apply Kd.R_alloc | apply Kd.R_drewN | apply Kd.R_drew)); exact HO_9b.out) hb); have n2_ := mz (Kd.R_below (by (with_reducible repeat (first | apply Kd.R_alloc | apply Kd.R_drewN | apply Kd.R_drew)); exact HO_9d.out) hb); have n3_ := mz (Kd.R_below (by (with_reducible repeat (first | apply Kd.R_alloc | apply Kd.R_drewN | apply Kd.R_drew)); exact HO_139000.out) hb); have n4_ := mz (blk_below (g := gb101) (o := .cells #[.slice A0_0 l0_0.length c0_0] 24 (0, 0)) (by (with_reducible repeat (first | refine blk_drewN ?_ _ | refine blk_drew ?_ | refine blk_alloc ?_ _)); exact BK101.out) hb); have n5_ := mz (blk_below (g := gb110) (o := .cells #[.slice Ao25 t106.length co25] 28 (0, 0)) (by (with_reducible repeat (first | refine blk_drewN ?_ _ | refine blk_drew ?_ | refine blk_alloc ?_ _)); exact BK110.out) hb); have n6_ := mz (blk_below (g := gb114) (o := .cells #[.slice Ao31 t126.length co31] 28 (0, 0)) (by (with_reducible repeat (first | refine blk_drewN ?_ _ | refine blk_drew ?_ | refine blk_alloc ?_ _)); exact BK114.out) hb); have n7_ := mz (blk_below (g := gb119) (o := .cells #[.slice Ao37 t129.length co37] 28 (0, 0)) (by (with_reducible repeat (first | refine blk_drewN ?_ _ | refine blk_drew ?_ | refine blk_alloc ?_ _)); exact BK119.out) hb); have n8_ := mz (blk_below (g := gb138) (o := .cells #[.slice Ao123 t134.length co123] 28 (0, 0)) (by (with_reducible repeat (first | refine blk_drewN ?_ _ | refine blk_drew ?_ | refine blk_alloc ?_ _)); exact BK138.out) hb); have n9_ := mz (below_step (by repeat (first | (with_reducible first | exact HB.out | apply below_alloc | apply pw_below_drewN | apply below_drew1 | refine below_set ?_ GE101.out | refine below_set ?_ GE110.out | refine below_set ?_ GE114.out | refine below_set ?_ GE119.out | refine below_set ?_ GE138.out) | exact HB.out)) hb); clear HO_9a; clear HO_9b; clear HO_9d; clear HO_139000; clear BK101; clear BK110; clear BK114; clear BK119; clear BK138; clear HB; have HO_9a := n0_; have HO_9b := n1_; have HO_9d := n2_; have HO_139000 := n3_; have BK101 := n4_; have BK110 := n5_; have BK114 := n6_; have BK119 := n7_; have BK138 := n8_; have HB := n9_; clear n0_ n1_ n2_ n3_ n4_ n5_ n6_ n7_ n8_ n9_; (try clear hb); (try clear hb2); (try clear hk); (try clear hi)))
                                go_ret
                                exact ⟨by first | rfl | (simp [errW_none, errW_some] <;> rfl) | (simp [*, errW_none, errW_some] <;> rfl), by repeat (first | (with_reducible first | exact HB.out | apply below_alloc | apply pw_below_drewN | apply below_drew1 | refine below_set ?_ GE101.out | refine below_set ?_ GE110.out | refine below_set ?_ GE114.out | refine below_set ?_ GE119.out | refine below_set ?_ GE138.out) | exact HB.out)⟩
                              · rw [if_neg c153] at H
                                have c153b0 : decide (t140 < 0) = false := decide_eq_false c153
                                clear c153
                                by_cases c160 : t140 = t128
                                · rw [if_pos c160] at H
                                  have c160b0 : (t140 == t128) = true := beq_iff_eq.mpr c160
                                  have c160b1 : (t140 != t128) = false := bne_eq_false_iff_eq.mpr c160
                                  clear c160
                                  obtain rfl := Option.some.inj H
                                  have hnb161 := NB119_101.out
                                  have hnc161 := NB101_119.out
                                  have hnb162 := NB119_110.out
                                  have hnc162 := NB110_119.out
                                  have hnb163 := NB119_114.out
                                  have hnc163 := NB114_119.out
                                  have hnb164 := NB119_138.out
                                  have hnc164 := NB138_119.out
                                  have hcz165_0 : wc.cell? ⟨gb119, 0, none⟩ = some (.slice Ao37 t129.length co37) := (blk_cell BK119.out 0).trans rfl
                                  have hfz165_0 := blk_frozen BK119.out 0
                                  go_wp2_with (first | ((with_reducible refine gate_callee (f := 10) rfl ?_); refine goesL_ (some 108) rfl rfl Try.func10 (by kernel_rfl) rfl #[.agg #[.slice Ao37 t129.length co37], .int .i64 1] rfl (by (try simp only [List.map_toArray, List.map_cons, List.map_nil]); first | done | rfl | (simp only [List.length_drop, List.length_take]; rfl)) ?_; (with_reducible refine (laws_heldSeq.calls kj107 _ _ t129 1 t140 _ ?side1 ?side2 A152.out).mono ?_); (case side1 => repeat (first | exact (Kd.R_reads' HO_9d.out).2.2 | (with_reducible refine Kd.C_alloc ?_ _) | (with_reducible refine Kd.C_drewN ?_ _) | (with_reducible refine Kd.C_drew ?_))); (case side2 => exact (Kd.R_reads' HO_9d.out).2.1); rintro e w166 ⟨rfl, hb⟩; refine ⟨_, rfl, ?_⟩; have n0_ := mz (Kd.R_below (by (with_reducible repeat (first | apply Kd.R_alloc | apply Kd.R_drewN | apply Kd.R_drew)); exact HO_9a.out) hb); have n1_ := mz (Kd.R_below (by (with_reducible repeat (first | apply Kd.R_alloc | apply Kd.R_drewN | apply Kd.R_drew)); exact HO_9b.out) hb); have n2_ := mz (Kd.R_below (by (with_reducible repeat (first | apply Kd.R_alloc | apply Kd.R_drewN | apply Kd.R_drew)); exact HO_9d.out) hb); have n3_ := mz (Kd.R_below (by (with_reducible repeat (first | apply Kd.R_alloc | apply Kd.R_drewN | apply Kd.R_drew)); exact HO_139000.out) hb); have n4_ := mz (blk_below (g := gb101) (o := .cells #[.slice A0_0 l0_0.length c0_0] 24 (0, 0)) (by (with_reducible repeat (first | refine blk_drewN ?_ _ | refine blk_drew ?_ | refine blk_alloc ?_ _)); exact BK101.out) hb); have n5_ := mz (blk_below (g := gb110) (o := .cells #[.slice Ao25 t106.length co25] 28 (0, 0)) (by (with_reducible repeat (first | refine blk_drewN ?_ _ | refine blk_drew ?_ | refine blk_alloc ?_ _)); exact BK110.out) hb); have n6_ := mz (blk_below (g := gb114) (o := .cells #[.slice Ao31 t126.length co31] 28 (0, 0)) (by (with_reducible repeat (first | refine blk_drewN ?_ _ | refine blk_drew ?_ | refine blk_alloc ?_ _)); exact BK114.out) hb); have n7_ := mz (blk_below (g := gb119) (o := .cells #[.slice Ao37 t129.length co37] 28 (0, 0)) (by (with_reducible repeat (first | refine blk_drewN ?_ _ | refine blk_drew ?_ | refine blk_alloc ?_ _)); exact BK119.out) hb); have n8_ := mz (blk_below (g := gb138) (o := .cells #[.slice Ao123 t134.length co123] 28 (0, 0)) (by (with_reducible repeat (first | refine blk_drewN ?_ _ | refine blk_drew ?_ | refine blk_alloc ?_ _)); exact BK138.out) hb); have n9_ := mz (below_step (by repeat (first | (with_reducible first | exact HB.out | apply below_alloc | apply pw_below_drewN | apply below_drew1 | refine below_set ?_ GE101.out | refine below_set ?_ GE110.out | refine below_set ?_ GE114.out | refine below_set ?_ GE119.out | refine below_set ?_ GE138.out) | exact HB.out)) hb); clear HO_9a; clear HO_9b; clear HO_9d; clear HO_139000; clear BK101; clear BK110; clear BK114; clear BK119; clear BK138; clear HB; have HO_9a := n0_; have HO_9b := n1_; have HO_9d := n2_; have HO_139000 := n3_; have BK101 := n4_; have BK110 := n5_; have BK114 := n6_; have BK119 := n7_; have BK138 := n8_; have HB := n9_; clear n0_ n1_ n2_ n3_ n4_ n5_ n6_ n7_ n8_ n9_; (try clear hb); (try clear hb2); (try clear hk); (try clear hi)))
                                  go_ret
                                  exact ⟨by first | rfl | (simp [errW_none, errW_some] <;> rfl) | (simp [*, errW_none, errW_some] <;> rfl), by repeat (first | (with_reducible first | exact HB.out | apply below_alloc | apply pw_below_drewN | apply below_drew1 | refine below_set ?_ GE101.out | refine below_set ?_ GE110.out | refine below_set ?_ GE114.out | refine below_set ?_ GE119.out | refine below_set ?_ GE138.out) | exact HB.out)⟩
                                · rw [if_neg c160] at H
                                  have c160b0 : (t140 == t128) = false := beq_eq_false_iff_ne.mpr c160
                                  have c160b1 : (t140 != t128) = true := bne_iff_ne.mpr c160
                                  obtain rfl := Option.some.inj H
                                  have hnb167 := NB119_101.out
                                  have hnc167 := NB101_119.out
                                  have hnb168 := NB119_110.out
                                  have hnc168 := NB110_119.out
                                  have hnb169 := NB119_114.out
                                  have hnc169 := NB114_119.out
                                  have hnb170 := NB119_138.out
                                  have hnc170 := NB138_119.out
                                  have hcz171_0 : wc.cell? ⟨gb119, 0, none⟩ = some (.slice Ao37 t129.length co37) := (blk_cell BK119.out 0).trans rfl
                                  have hfz171_0 := blk_frozen BK119.out 0
                                  go_wp2_with (first | ((with_reducible refine gate_callee (f := 10) rfl ?_); refine goesL_ (some 108) rfl rfl Try.func10 (by kernel_rfl) rfl #[.agg #[.slice Ao37 t129.length co37], .int .i64 1] rfl (by (try simp only [List.map_toArray, List.map_cons, List.map_nil]); first | done | rfl | (simp only [List.length_drop, List.length_take]; rfl)) ?_; (with_reducible refine (laws_heldSeq.calls kj107 _ _ t129 1 t140 _ ?side1 ?side2 A152.out).mono ?_); (case side1 => repeat (first | exact (Kd.R_reads' HO_9d.out).2.2 | (with_reducible refine Kd.C_alloc ?_ _) | (with_reducible refine Kd.C_drewN ?_ _) | (with_reducible refine Kd.C_drew ?_))); (case side2 => exact (Kd.R_reads' HO_9d.out).2.1); rintro e w172 ⟨rfl, hb⟩; refine ⟨_, rfl, ?_⟩; have n0_ := mz (Kd.R_below (by (with_reducible repeat (first | apply Kd.R_alloc | apply Kd.R_drewN | apply Kd.R_drew)); exact HO_9a.out) hb); have n1_ := mz (Kd.R_below (by (with_reducible repeat (first | apply Kd.R_alloc | apply Kd.R_drewN | apply Kd.R_drew)); exact HO_9b.out) hb); have n2_ := mz (Kd.R_below (by (with_reducible repeat (first | apply Kd.R_alloc | apply Kd.R_drewN | apply Kd.R_drew)); exact HO_9d.out) hb); have n3_ := mz (Kd.R_below (by (with_reducible repeat (first | apply Kd.R_alloc | apply Kd.R_drewN | apply Kd.R_drew)); exact HO_139000.out) hb); have n4_ := mz (blk_below (g := gb101) (o := .cells #[.slice A0_0 l0_0.length c0_0] 24 (0, 0)) (by (with_reducible repeat (first | refine blk_drewN ?_ _ | refine blk_drew ?_ | refine blk_alloc ?_ _)); exact BK101.out) hb); have n5_ := mz (blk_below (g := gb110) (o := .cells #[.slice Ao25 t106.length co25] 28 (0, 0)) (by (with_reducible repeat (first | refine blk_drewN ?_ _ | refine blk_drew ?_ | refine blk_alloc ?_ _)); exact BK110.out) hb); have n6_ := mz (blk_below (g := gb114) (o := .cells #[.slice Ao31 t126.length co31] 28 (0, 0)) (by (with_reducible repeat (first | refine blk_drewN ?_ _ | refine blk_drew ?_ | refine blk_alloc ?_ _)); exact BK114.out) hb); have n7_ := mz (blk_below (g := gb119) (o := .cells #[.slice Ao37 t129.length co37] 28 (0, 0)) (by (with_reducible repeat (first | refine blk_drewN ?_ _ | refine blk_drew ?_ | refine blk_alloc ?_ _)); exact BK119.out) hb); have n8_ := mz (blk_below (g := gb138) (o := .cells #[.slice Ao123 t134.length co123] 28 (0, 0)) (by (with_reducible repeat (first | refine blk_drewN ?_ _ | refine blk_drew ?_ | refine blk_alloc ?_ _)); exact BK138.out) hb); have n9_ := mz (below_step (by repeat (first | (with_reducible first | exact HB.out | apply below_alloc | apply pw_below_drewN | apply below_drew1 | refine below_set ?_ GE101.out | refine below_set ?_ GE110.out | refine below_set ?_ GE114.out | refine below_set ?_ GE119.out | refine below_set ?_ GE138.out) | exact HB.out)) hb); clear HO_9a; clear HO_9b; clear HO_9d; clear HO_139000; clear BK101; clear BK110; clear BK114; clear BK119; clear BK138; clear HB; have HO_9a := n0_; have HO_9b := n1_; have HO_9d := n2_; have HO_139000 := n3_; have BK101 := n4_; have BK110 := n5_; have BK114 := n6_; have BK119 := n7_; have BK138 := n8_; have HB := n9_; clear n0_ n1_ n2_ n3_ n4_ n5_ n6_ n7_ n8_ n9_; (try clear hb); (try clear hb2); (try clear hk); (try clear hi)))
                                  go_ret
                                  exact ⟨by first | rfl | (simp [errW_none, errW_some] <;> rfl) | (simp [*, errW_none, errW_some] <;> rfl), by repeat (first | (with_reducible first | exact HB.out | apply below_alloc | apply pw_below_drewN | apply below_drew1 | refine below_set ?_ GE101.out | refine below_set ?_ GE110.out | refine below_set ?_ GE114.out | refine below_set ?_ GE119.out | refine below_set ?_ GE138.out) | exact HB.out)⟩
                      · rw [if_neg c105] at H
                        have c105b0 : (t130 == t128) = false := beq_eq_false_iff_ne.mpr c105
                        have c105b1 : (t130 != t128) = true := bne_iff_ne.mpr c105
                        obtain rfl := Option.some.inj H
                        have hnb173 := NB119_101.out
                        have hnc173 := NB101_119.out
                        have hnb174 := NB119_110.out
                        have hnc174 := NB110_119.out
                        have hnb175 := NB119_114.out
                        have hnc175 := NB114_119.out
                        have hcz176_0 : wc.cell? ⟨gb119, 0, none⟩ = some (.slice Ao37 t115.length co37) := (blk_cell BK119.out 0).trans rfl
                        have hfz176_0 := blk_frozen BK119.out 0
                        go_wp2_with (first | ((with_reducible refine gate_callee (f := 9) rfl ?_); refine goesL_ (some 79) rfl rfl Try.func9 (by kernel_rfl) rfl #[.agg #[.slice Ao37 t115.length co37], .int .i64 1] rfl (by (try simp only [List.map_toArray, List.map_cons, List.map_nil]); first | done | rfl | (simp only [List.length_drop, List.length_take]; rfl)) ?_; (with_reducible refine (laws_markSeq.calls kj64 (fun k_ => some k_ = (.slice Ao37 t115.length co37 : Value).ownBlock) (.slice Ao37 t115.length co37) t115 1 t128 t129 w _ ?side1 ?side2 A95.out).mono ?_); (case side1 => repeat (first | (with_reducible first | exact HB.out | apply below_alloc | apply pw_below_drewN | apply below_drew1 | refine below_set ?_ GE101.out | refine below_set ?_ GE110.out | refine below_set ?_ GE114.out | refine below_set ?_ GE119.out) | exact HB.out)); (case side2 => exact Kd.R_tight rfl HO_9d.out); rintro e w177 ⟨rfl, hy0, hb, hkp⟩; refine ⟨_, rfl, ?_⟩; have n0_ := mz (Kd.R_mono (ok' := fun k_ => some k_ ≠ (.slice Ao31 t126.length co31 : Value).ownBlock ∧ some k_ ≠ (.slice Ao37 t115.length co37 : Value).ownBlock) (Kd.R_keptB (HO_9a.out) hkp (fun k_ hk_ hs_ => (hk_.2) hs_)) (fun k_ hk_ => ⟨hk_.1.1, hk_.1.2⟩)); have n1_ := mz (Kd.R_mono (ok' := fun k_ => some k_ ≠ (.slice Ao25 t106.length co25 : Value).ownBlock ∧ some k_ ≠ (.slice Ao37 t115.length co37 : Value).ownBlock) (Kd.R_keptB (HO_9b.out) hkp (fun k_ hk_ hs_ => (hk_.2) hs_)) (fun k_ hk_ => ⟨hk_.1.1, hk_.1.2⟩)); have n2_ := mz (Kd.R_reok rfl hy0 (fun k_ e_ => HO_9d.out.1 k_ e_)); have n3_ := mz (blk_kept (by (with_reducible repeat (first | refine blk_drewN ?_ _ | refine blk_drew ?_ | refine blk_alloc ?_ _)); exact BK101.out) hkp (fun hs_ => (fun e_ => (Kd.R_ne HO_9d.out BK101.out (by decide)) e_) hs_)); have n4_ := mz (blk_kept (by (with_reducible repeat (first | refine blk_drewN ?_ _ | refine blk_drew ?_ | refine blk_alloc ?_ _)); exact BK110.out) hkp (fun hs_ => (fun e_ => (Kd.R_ne HO_9d.out BK110.out (by decide)) e_) hs_)); have n5_ := mz (blk_kept (by (with_reducible repeat (first | refine blk_drewN ?_ _ | refine blk_drew ?_ | refine blk_alloc ?_ _)); exact BK114.out) hkp (fun hs_ => (fun e_ => (Kd.R_ne HO_9d.out BK114.out (by decide)) e_) hs_)); have n6_ := mz (blk_kept (by (with_reducible repeat (first | refine blk_drewN ?_ _ | refine blk_drew ?_ | refine blk_alloc ?_ _)); exact BK119.out) hkp (fun hs_ => (fun e_ => (Kd.R_ne HO_9d.out BK119.out (by decide)) e_) hs_)); have n7_ := mz (hb); clear HO_9a; clear HO_9b; clear HO_9d; clear BK101; clear BK110; clear BK114; clear BK119; clear HB; have HO_9a := n0_; have HO_9b := n1_; have HO_9d := n2_; have BK101 := n3_; have BK110 := n4_; have BK114 := n5_; have BK119 := n6_; have HB := n7_; clear n0_ n1_ n2_ n3_ n4_ n5_ n6_ n7_; (try clear hb); (try clear hkp); (try clear hy0); have hcz178_0 : w177.cell? ⟨gb119, 0, none⟩ = some (.slice Ao37 t115.length co37) := (blk_cell BK119.out 0).trans rfl; have hfz178_0 := blk_frozen BK119.out 0) | ((with_reducible refine gate_callee (f := 10) rfl ?_); refine goesL_ (some 82) rfl rfl Try.func10 (by kernel_rfl) rfl #[.agg #[.slice Ao37 t129.length co37], .int .i64 1] rfl (by (try simp only [List.map_toArray, List.map_cons, List.map_nil]); first | done | (rw [show t129.length = t115.length from (Kd.R_reads' HO_9d.out).1.symm] <;> rfl) | rfl | (simp only [List.length_drop, List.length_take]; rfl)) ?_; (with_reducible refine (laws_heldSeq.calls kj64 _ _ t129 1 t130 _ ?side1 ?side2 A96.out).mono ?_); (case side1 => repeat (first | exact (Kd.R_reads' HO_9d.out).2.2 | (with_reducible refine Kd.C_alloc ?_ _) | (with_reducible refine Kd.C_drewN ?_ _) | (with_reducible refine Kd.C_drew ?_))); (case side2 => rw [show t129.length = t115.length from (Kd.R_reads' HO_9d.out).1.symm]; exact (Kd.R_reads' HO_9d.out).2.1); rintro e w179 ⟨rfl, hb⟩; refine ⟨_, rfl, ?_⟩; have n0_ := mz (Kd.R_below (by (with_reducible repeat (first | apply Kd.R_alloc | apply Kd.R_drewN | apply Kd.R_drew)); exact HO_9a.out) hb); have n1_ := mz (Kd.R_below (by (with_reducible repeat (first | apply Kd.R_alloc | apply Kd.R_drewN | apply Kd.R_drew)); exact HO_9b.out) hb); have n2_ := mz (Kd.R_below (by (with_reducible repeat (first | apply Kd.R_alloc | apply Kd.R_drewN | apply Kd.R_drew)); exact HO_9d.out) hb); have n3_ := mz (blk_below (g := gb101) (o := .cells #[.slice A0_0 l0_0.length c0_0] 24 (0, 0)) (by (with_reducible repeat (first | refine blk_drewN ?_ _ | refine blk_drew ?_ | refine blk_alloc ?_ _)); exact BK101.out) hb); have n4_ := mz (blk_below (g := gb110) (o := .cells #[.slice Ao25 t106.length co25] 28 (0, 0)) (by (with_reducible repeat (first | refine blk_drewN ?_ _ | refine blk_drew ?_ | refine blk_alloc ?_ _)); exact BK110.out) hb); have n5_ := mz (blk_below (g := gb114) (o := .cells #[.slice Ao31 t126.length co31] 28 (0, 0)) (by (with_reducible repeat (first | refine blk_drewN ?_ _ | refine blk_drew ?_ | refine blk_alloc ?_ _)); exact BK114.out) hb); have n6_ := mz (blk_below (g := gb119) (o := .cells #[.slice Ao37 t115.length co37] 28 (0, 0)) (by (with_reducible repeat (first | refine blk_drewN ?_ _ | refine blk_drew ?_ | refine blk_alloc ?_ _)); exact BK119.out) hb); have n7_ := mz (below_step (by repeat (first | (with_reducible first | exact HB.out | apply below_alloc | apply pw_below_drewN | apply below_drew1 | refine below_set ?_ GE101.out | refine below_set ?_ GE110.out | refine below_set ?_ GE114.out | refine below_set ?_ GE119.out) | exact HB.out)) hb); clear HO_9a; clear HO_9b; clear HO_9d; clear BK101; clear BK110; clear BK114; clear BK119; clear HB; have HO_9a := n0_; have HO_9b := n1_; have HO_9d := n2_; have BK101 := n3_; have BK110 := n4_; have BK114 := n5_; have BK119 := n6_; have HB := n7_; clear n0_ n1_ n2_ n3_ n4_ n5_ n6_ n7_; (try clear hb); (try clear hb2); (try clear hk); (try clear hi)))
                        go_ret
                        exact ⟨by first | rfl | (simp [errW_none, errW_some] <;> rfl) | (simp [*, errW_none, errW_some] <;> rfl), by repeat (first | (with_reducible first | exact HB.out | apply below_alloc | apply pw_below_drewN | apply below_drew1 | refine below_set ?_ GE101.out | refine below_set ?_ GE110.out | refine below_set ?_ GE114.out | refine below_set ?_ GE119.out) | exact HB.out)⟩
            · replace c63 := Bool.eq_false_iff.mpr c63
              subst c63
              have H1 : (some false) = some r := by rw [if_neg (show ¬ (false = true) by decide)] at H; exact H
              clear H
              have H := H1
              clear H1
              obtain rfl := Option.some.inj H
              try go_wp2
              have n0_ := mz (Kd.R_drew HO_9a.out)
              have n1_ := mz (Kd.R_drew HO_9b.out)
              have n2_ := mz (Kd.R_drew HO_9d.out)
              have n3_ := mz (blk_drew BK101.out)
              have n4_ := mz (blk_drew BK110.out)
              have n5_ := mz (blk_drew BK114.out)
              have n6_ := mz (blk_drew BK119.out)
              have n7_ := mz (below_drew1 HB.out)
              clear HO_9a
              clear HO_9b
              clear HO_9d
              clear BK101
              clear BK110
              clear BK114
              clear BK119
              clear HB
              have HO_9a := n0_
              have HO_9b := n1_
              have HO_9d := n2_
              have BK101 := n3_
              have BK110 := n4_
              have BK114 := n5_
              have BK119 := n6_
              have HB := n7_
              clear n0_ n1_ n2_ n3_ n4_ n5_ n6_ n7_
              refine start_ (n := 5) (S := fun w' => w'.cell? ⟨gb114, 0, none⟩ = some (.slice Ao31 t111.length co31) ∧ w'.cell? ⟨gb101, 0, none⟩ = some (.slice A0_0 l0_0.length c0_0)) (ds := []) #[false, false, false, false, false] (by kernel_rfl) rfl rfl ⟨(blk_cell BK114.out 0).trans rfl, (blk_cell BK101.out 0).trans rfl⟩ (fun hHeld => ?_)
              generalize wc.drew = w180 at HO_9a HO_9b HO_9d BK101 BK110 BK114 BK119 HB hHeld ⊢
              refine take_ (i := 0) (N := some 56) (v := ?_) (a' := ?_) #[true, false, false, false, false] rfl rfl (by kernel_rfl) (fun _ _ _ h => h) (Or.inl ⟨by rfl, ?_⟩) hHeld ?_ ?_
              rotate_left
              · rintro w' ⟨s0, s1⟩
                go_simp
                with_reducible rfl
              rotate_left
              · simp only [Act.put, List.setIfInBounds_toArray, List.set_cons_zero, List.set_cons_succ, i64_w, i32_w]
                rfl
              refine take_ (i := 1) (N := some 57) (v := ?_) (a' := ?_) #[true, true, false, false, false] rfl rfl (by kernel_rfl) (fun _ _ _ h => h) (Or.inl ⟨by rfl, ?_⟩) hHeld ?_ ?_
              rotate_left
              · rintro w' ⟨s0, s1⟩
                go_simp
                with_reducible rfl
              rotate_left
              · simp only [Act.put, List.setIfInBounds_toArray, List.set_cons_zero, List.set_cons_succ, i64_w, i32_w]
                rfl
              refine one_ (i := 2) (N := some 58) #[true, true, true, false, false] rfl rfl (by kernel_rfl) (by decide) (fun K hK => ?_)
              refine goes_ Try.func6 (by kernel_rfl) rfl #[.agg #[.slice A0_0 l0_0.length c0_0]] (by rfl) rfl rfl (by (try simp only [List.map_toArray, List.map_cons, List.map_nil]); first | done | rfl | (simp only [List.length_drop, List.length_take]; rfl)) ?_
              with_reducible refine (laws_toSeq.calls kj15 _ _ l0_0 t121 _ ?side1 ?side2 A61.out).mono ?_
              (case side1 => repeat (first | exact (Kd.C_below HR0_0.out HB.out) | (with_reducible refine Kd.C_alloc ?_ _) | (with_reducible refine Kd.C_drewN ?_ _) | (with_reducible refine Kd.C_drew ?_)))
              (case side2 => exact HC0_0.out)
              rintro e w181 ⟨v122, rfl, ho0, hb⟩
              refine ⟨_, rfl, ?_⟩
              have n0_ := mz (Kd.R_elder' (by (with_reducible repeat (first | apply Kd.R_alloc | apply Kd.R_drewN | apply Kd.R_drew)); exact HO_9a.out) (Kd.R_base ho0) hb)
              have n1_ := mz (Kd.R_elder' (by (with_reducible repeat (first | apply Kd.R_alloc | apply Kd.R_drewN | apply Kd.R_drew)); exact HO_9b.out) (Kd.R_base ho0) hb)
              have n2_ := mz (Kd.R_elder' (by (with_reducible repeat (first | apply Kd.R_alloc | apply Kd.R_drewN | apply Kd.R_drew)); exact HO_9d.out) (Kd.R_base ho0) hb)
              have n3_ := mz (Kd.R_lower (Kd.R_new' (Kd.R_new' (Kd.R_new' ho0 (Kd.R_lt (by (with_reducible repeat (first | apply Kd.R_alloc | apply Kd.R_drewN | apply Kd.R_drew)); exact HO_9a.out))) (Kd.R_lt (by (with_reducible repeat (first | apply Kd.R_alloc | apply Kd.R_drewN | apply Kd.R_drew)); exact HO_9b.out))) (Kd.R_lt (by (with_reducible repeat (first | apply Kd.R_alloc | apply Kd.R_drewN | apply Kd.R_drew)); exact HO_9d.out))) (below_size (by repeat (first | (with_reducible first | exact HB.out | apply below_alloc | apply pw_below_drewN | apply below_drew1 | refine below_set ?_ GE101.out | refine below_set ?_ GE110.out | refine below_set ?_ GE114.out | refine below_set ?_ GE119.out) | exact HB.out))))
              have n4_ := mz (blk_below (g := gb101) (o := .cells #[.slice A0_0 l0_0.length c0_0] 24 (0, 0)) (by (with_reducible repeat (first | refine blk_drewN ?_ _ | refine blk_drew ?_ | refine blk_alloc ?_ _)); exact BK101.out) hb)
              have n5_ := mz (blk_below (g := gb110) (o := .cells #[.slice Ao25 t106.length co25] 28 (0, 0)) (by (with_reducible repeat (first | refine blk_drewN ?_ _ | refine blk_drew ?_ | refine blk_alloc ?_ _)); exact BK110.out) hb)
              have n6_ := mz (blk_below (g := gb114) (o := .cells #[.slice Ao31 t111.length co31] 28 (0, 0)) (by (with_reducible repeat (first | refine blk_drewN ?_ _ | refine blk_drew ?_ | refine blk_alloc ?_ _)); exact BK114.out) hb)
              have n7_ := mz (blk_below (g := gb119) (o := .cells #[.slice Ao37 t115.length co37] 28 (0, 0)) (by (with_reducible repeat (first | refine blk_drewN ?_ _ | refine blk_drew ?_ | refine blk_alloc ?_ _)); exact BK119.out) hb)
              have n8_ := mz (below_step (by repeat (first | (with_reducible first | exact HB.out | apply below_alloc | apply pw_below_drewN | apply below_drew1 | refine below_set ?_ GE101.out | refine below_set ?_ GE110.out | refine below_set ?_ GE114.out | refine below_set ?_ GE119.out) | exact HB.out)) hb)
              clear HO_9a
              clear HO_9b
              clear HO_9d
              clear BK101
              clear BK110
              clear BK114
              clear BK119
              clear HB
              have HO_9a := n0_
              have HO_9b := n1_
              have HO_9d := n2_
              have HO123 := n3_
              have BK101 := n4_
              have BK110 := n5_
              have BK114 := n6_
              have BK119 := n7_
              have HB := n8_
              clear n0_ n1_ n2_ n3_ n4_ n5_ n6_ n7_ n8_
              (try clear hb)
              (try clear hb2)
              (try clear hk)
              (try clear hi)
              (try clear ho0)
              obtain ⟨Ao182, co182, eo182⟩ := Kd.R_slice HO123.out
              (first | subst eo182 | (injection eo182 with f1_ f2_ f3_; have f4_ := f1_.symm; have f5_ := f3_.symm; clear f1_ f2_ f3_; subst f4_; subst f5_))
              refine hK.out _ _ ⟨(blk_cell BK114.out 0).trans rfl, (blk_cell BK101.out 0).trans rfl⟩ (fun hHeld => ?_)
              clear hK K
              refine norm_ (a' := ?_) ?_ ?_
              rotate_left
              · show Act.put _ (some 58) _ = _
                simp only [Act.put, List.setIfInBounds_toArray, List.set_cons_zero, List.set_cons_succ, i64_w, i32_w]
                rfl
              refine one_ (i := 3) (N := some 59) #[true, true, true, true, false] rfl rfl (by kernel_rfl) (by decide) (fun K hK => ?_)
              refine goes_ Try.func8 (by kernel_rfl) rfl #[.agg #[.slice Ao31 t111.length co31], .agg #[.slice Ao182 t121.length co182]] (by rfl) rfl rfl (by (try simp only [List.map_toArray, List.map_cons, List.map_nil]); first | done | rfl | (simp only [List.length_drop, List.length_take]; rfl)) ?_
              with_reducible refine (laws_eqSeq.calls kj15 _ _ t111 _ _ t121 false _ ?side1 ?side2 ?side3 ?side4 A62.out).mono ?_
              (case side1 => repeat (first | exact (Kd.R_reads' HO_9b.out).2.2 | (with_reducible refine Kd.C_alloc ?_ _) | (with_reducible refine Kd.C_drewN ?_ _) | (with_reducible refine Kd.C_drew ?_)))
              (case side2 => exact (Kd.R_reads' HO_9b.out).2.1)
              (case side3 => repeat (first | exact (Kd.R_reads' HO123.out).2.2 | (with_reducible refine Kd.C_alloc ?_ _) | (with_reducible refine Kd.C_drewN ?_ _) | (with_reducible refine Kd.C_drew ?_)))
              (case side4 => exact (Kd.R_reads' HO123.out).2.1)
              rintro e w183 ⟨rfl, hb⟩
              refine ⟨_, rfl, ?_⟩
              have n0_ := mz (Kd.R_below (by (with_reducible repeat (first | apply Kd.R_alloc | apply Kd.R_drewN | apply Kd.R_drew)); exact HO_9a.out) hb)
              have n1_ := mz (Kd.R_below (by (with_reducible repeat (first | apply Kd.R_alloc | apply Kd.R_drewN | apply Kd.R_drew)); exact HO_9b.out) hb)
              have n2_ := mz (Kd.R_below (by (with_reducible repeat (first | apply Kd.R_alloc | apply Kd.R_drewN | apply Kd.R_drew)); exact HO_9d.out) hb)
              have n3_ := mz (Kd.R_below (by (with_reducible repeat (first | apply Kd.R_alloc | apply Kd.R_drewN | apply Kd.R_drew)); exact HO123.out) hb)
              have n4_ := mz (blk_below (g := gb101) (o := .cells #[.slice A0_0 l0_0.length c0_0] 24 (0, 0)) (by (with_reducible repeat (first | refine blk_drewN ?_ _ | refine blk_drew ?_ | refine blk_alloc ?_ _)); exact BK101.out) hb)
              have n5_ := mz (blk_below (g := gb110) (o := .cells #[.slice Ao25 t106.length co25] 28 (0, 0)) (by (with_reducible repeat (first | refine blk_drewN ?_ _ | refine blk_drew ?_ | refine blk_alloc ?_ _)); exact BK110.out) hb)
              have n6_ := mz (blk_below (g := gb114) (o := .cells #[.slice Ao31 t111.length co31] 28 (0, 0)) (by (with_reducible repeat (first | refine blk_drewN ?_ _ | refine blk_drew ?_ | refine blk_alloc ?_ _)); exact BK114.out) hb)
              have n7_ := mz (blk_below (g := gb119) (o := .cells #[.slice Ao37 t115.length co37] 28 (0, 0)) (by (with_reducible repeat (first | refine blk_drewN ?_ _ | refine blk_drew ?_ | refine blk_alloc ?_ _)); exact BK119.out) hb)
              have n8_ := mz (below_step (by repeat (first | (with_reducible first | exact HB.out | apply below_alloc | apply pw_below_drewN | apply below_drew1 | refine below_set ?_ GE101.out | refine below_set ?_ GE110.out | refine below_set ?_ GE114.out | refine below_set ?_ GE119.out) | exact HB.out)) hb)
              clear HO_9a
              clear HO_9b
              clear HO_9d
              clear HO123
              clear BK101
              clear BK110
              clear BK114
              clear BK119
              clear HB
              have HO_9a := n0_
              have HO_9b := n1_
              have HO_9d := n2_
              have HO123 := n3_
              have BK101 := n4_
              have BK110 := n5_
              have BK114 := n6_
              have BK119 := n7_
              have HB := n8_
              clear n0_ n1_ n2_ n3_ n4_ n5_ n6_ n7_ n8_
              (try clear hb)
              (try clear hb2)
              (try clear hk)
              (try clear hi)
              refine hK.out _ _ ⟨(blk_cell BK114.out 0).trans rfl, (blk_cell BK101.out 0).trans rfl⟩ (fun hHeld => ?_)
              clear hK K
              refine norm_ (a' := ?_) ?_ ?_
              rotate_left
              · show Act.put _ (some 59) _ = _
                simp only [Act.put, List.setIfInBounds_toArray, List.set_cons_zero, List.set_cons_succ, i64_w, i32_w]
                rfl
              refine pure_ (i := 4) (N := some 60) (v := ?_) (a' := ?_) #[true, true, true, true, true] rfl rfl (by kernel_rfl) (fun _ _ _ h => h) (Or.inl ⟨by rfl, ?_⟩) ?_ ?_
              rotate_left
              · intro w'
                go_simp
                with_reducible rfl
              rotate_left
              · simp only [Act.put, List.setIfInBounds_toArray, List.set_cons_zero, List.set_cons_succ, i64_w, i32_w]
                rfl
              refine done_ (by kernel_rfl) ?_
              try go_wp2
              go_ret
              exact ⟨by first | rfl | (simp [errW_none, errW_some] <;> rfl) | (simp [*, errW_none, errW_some] <;> rfl), by repeat (first | (with_reducible first | exact HB.out | apply below_alloc | apply pw_below_drewN | apply below_drew1 | refine below_set ?_ GE101.out | refine below_set ?_ GE110.out | refine below_set ?_ GE114.out | refine below_set ?_ GE119.out) | exact HB.out)⟩
end
section
attribute [local go_sem] max2_int min2_int max_two min_two max_three min_three max_four min_four
def PureFnExactPutAtom : Prop := ∀ (x0 : S24), ∀ (a1 : Int), ∀ (a2 : Int), ∀ (a3 : ByteArray), B24 x0 → (Lit.int .i64 a1).wf = true → (Lit.int .i64 a2).wf = true → a3.size ≤ maxLen → ∃ k, laws_FnExactPutAtom.f k x0.f0 a1 a2 a3 = some true
end
end Go.Proofs.Ytejilfaioooabaa.X
namespace Go.Proofs.Ytejilfaioooabaa.Pure
open Go.RowKit Go.Proofs.Ytejilfaioooabaa.X Go.Proofs.YtejilfaioooabaaW.PrintWords Go.Proofs.YtejilfaioooabaaW.PrintLast
theorem putV_short (l : List Atom) (a1 a2 : Int) (b : ByteArray) : (putV l a1 a2 b).1.length ≤ 81 := by
  unfold putV
  split
  · rename_i h
    have := (goodS_of h.1).1
    show (l ++ [newA l a1 a2 b]).length ≤ 81
    rw [List.length_append, List.length_singleton]; omega
  · simp
theorem FnExactPutAtom : PureFnExactPutAtom := by
  intro x a1 a2 b hB _ _ hbs
  refine Ev.rounds ?_
  unfold laws_FnExactPutAtom.f
  by_cases hc : (b.size : Int) > 1048576
  · simp only [if_pos hc]; exact Ev.now _
  simp only [if_neg hc]
  obtain ⟨hm, hA⟩ := hB
  obtain ⟨r, hr, _, hg⟩ := szSeq_ev x.f0 hm (fun e he => (hA e he).2.2.2.2.1) 1048576 (by omega) (by omega)
  refine Ev.bind hr ?_
  by_cases h : r < 0
  · simp only [if_pos h]; exact Ev.now _
  · simp only [if_neg h]
    have g := hg (by omega)
    have ht := toSeq_ev x.f0 g
    have hs := seqOf_sized x.f0 hA
    have hlen : (seqOf x.f0).length ≤ 1048576 := by rw [seqOf_length]; exact g
    have hv : impl_PutAtom.f (seqOf x.f0) a1 a2 b = some (putV (seqOf x.f0) a1 a2 b) := if_pos ⟨hs, hbs⟩
    have hsh : (putV (seqOf x.f0) a1 a2 b).1.length ≤ 1048576 := by have := putV_short (seqOf x.f0) a1 a2 b; omega
    have hsp : spec_PutAtom.f (seqOf x.f0) a1 a2 b = some (putV (seqOf x.f0) a1 a2 b) := if_pos ⟨hs, hbs, by omega⟩
    generalize putV (seqOf x.f0) a1 a2 b = v at hv hsh hsp
    obtain ⟨v1, v2⟩ := v
    simp only at hsh
    refine Ev.bind ht ?_
    simp only [hsp, Option.bind_some]
    refine Ev.bind ht ?_
    simp only [hv, Option.bind_some]
    refine Ev.bind (eqSeq_ev v1 hsh) ?_
    simp only [if_true, bne_self_eq_false]
    refine Ev.succ ?_
    simp only [laws_FnExactPutAtom.j0, Bool.false_eq_true, if_false]
    refine Ev.bind ht ?_
    refine Ev.bind (eqSeq_ev (seqOf x.f0) hlen) ?_
    simp only [if_true]
    refine Ev.bind (markSeq_ev (seqOf x.f0) 1 (by omega) (by omega)) ?_
    simp only [if_neg (show ¬ ((1 : Int) + 6 * ((seqOf x.f0).length : Int) < 0) by omega)]
    refine Ev.bind (eqSeq_ev v1 hsh) ?_
    simp only [if_true, bne_self_eq_false]
    refine Ev.succ ?_
    simp only [laws_FnExactPutAtom.j1, Bool.false_eq_true, if_false]
    refine Ev.bind (markSeq_ev v1 1 (by omega) (by omega)) ?_
    refine Ev.bind (heldSeq_ev 1 v1.length (by omega) (by omega)) ?_
    simp only [if_neg (show ¬ ((1 : Int) + 6 * (v1.length : Int) < 0) by omega), if_true]
    refine Ev.bind ht ?_
    simp only [hv, Option.bind_some]
    refine Ev.bind (eqSeq_ev v1 hsh) ?_
    simp only [if_true, bne_self_eq_false]
    refine Ev.succ ?_
    simp only [laws_FnExactPutAtom.j2, Bool.false_eq_true, if_false]
    refine Ev.bind (heldSeq_ev 1 v1.length (by omega) (by omega)) ?_
    simp only [if_neg (show ¬ ((1 : Int) + 6 * (v1.length : Int) < 0) by omega), if_true]
    exact Ev.now _
end Go.Proofs.Ytejilfaioooabaa.Pure
namespace Go.Proofs.Ytejilfaioooabaa.fnExactPutAtom
open Go.ChangeShapes Go.WideShapes Go.ChangeAt Go.RowKit
open Go.ChangeMaps (open_string shut_string)
open Go.Proofs.YtejilfaioooabaaW.PrintWords Go.Proofs.Ytejilfaioooabaa.X
set_option linter.unusedVariables false
theorem own : ownKnob Try.prog.godebug = none := by kernel_rfl
theorem laidOut : laidOutB Try.prog = true := by kernel_rfl
set_option maxRecDepth 100000 in
theorem lifted (os : Os) (started : os.Started) (H : Type) (enc : TypeId × Value → H) :
    ReturnsInHanded {} Try.checked os 3 .any (Rows.fnExactPutAtomSpec.pre6 enc Try.prog Try.f3 Rows.fnExactPutAtomRow.domain false) (Rows.fnExactPutAtomSpec.post enc Try.prog Try.f3 false true false false) := by
  refine returnsInHanded_of_change_sized (C := Try.checked) own started (by kernel_rfl) Try.func3
    (ChangeSpec.witness6 (enc := enc) (C := Try.checked) false ⟨#[], #[.agg #[.slice none 0 0], .int .i64 0, .int .i64 0, .string ByteArray.empty], []⟩ 8 (by kernel_rfl) (by kernel_rfl) (by kernel_rfl) (by kernel_rfl)) ?_
  intro W base args ds gs before hval0 hW hcnd hsz0 _
  have hval : ∀ (j : Nat) t v, Try.f3.params[j]? = some t → args[j]? = some v → Value.okWide Try.prog W .any base t v := hval0
  have hW' := hW
  obtain ⟨p, q, hA0, hV, rfl, hfz, hnd⟩ := hW
  have hA : DataW.TrodAll enc Try.prog W 0 (fun _ => true) true Try.f3.params.toList args.toList ds p := hA0
  rw [Try.params3] at hA hval
  obtain ⟨v0, vs0, d0, ds0, p0, q0, hargs, rfl, rfl, h0, r0⟩ := trodAll_cons hA
  obtain ⟨v1, vs1, d1, ds1, p1, q1, rfl, rfl, rfl, h1, r1⟩ := trodAll_cons r0
  obtain ⟨v2, vs2, d2, ds2, p2, q2, rfl, rfl, rfl, h2, r2⟩ := trodAll_cons r1
  obtain ⟨v3, vs3, d3, ds3, p3, q3, rfl, rfl, rfl, h3, r3⟩ := trodAll_cons r2
  obtain ⟨rfl, rfl, rfl⟩ := trodAll_nil r3
  obtain rfl : args = #[v0, v1, v2, v3] := by cases args; simp_all
  obtain ⟨rfl, rfl⟩ := trodVars_none hV
  have k0 := h0
  have lt0 : ∀ x ∈ p0, x.block < W.heap.size := by obtain ⟨m, hm⟩ := k0; exact DataW.trod_lt m _ _ _ hm
  obtain ⟨fuel0, hf0⟩ := h0
  obtain ⟨cs0, rfl, _⟩ := okWide_struct Try.underlying24 (hval 0 24 v0 rfl rfl)
  obtain ⟨x0, K0, b0⟩ := opens_S24 H enc W _ _ _ hf0
  obtain ⟨A0_0, c0_0, he0, hc0_0, hr0_0⟩ := k24_open K0
  obtain rfl : cs0 = #[.slice A0_0 x0.f0.length c0_0] := by cases cs0; simp_all [Value.cells]
  obtain ⟨a1, rfl, rfl, rfl, w1⟩ := open_int Try.underlying3 (hval 1 3 v1 rfl rfl) h1
  obtain ⟨a2, rfl, rfl, rfl, w2⟩ := open_int Try.underlying3 (hval 2 3 v2 rfl rfl) h2
  obtain ⟨a3, rfl, rfl, rfl, w3⟩ := open_string Try.underlying9 (hval 3 9 v3 rfl rfl) h3
  clear hA0 hval0 hsz0
  have hP : PureFnExactPutAtom := Pure.FnExactPutAtom
  obtain ⟨k, hk⟩ := hP x0 a1 a2 a3 b0 w1 w2 w3
  refine (laws_FnExactPutAtom.calls k _ _ x0.f0 a1 a2 a3 true W hr0_0 hc0_0 hk).mono fun e W' ⟨he, bel0⟩ => ?_
  have bel : Below W.heap.size W W' := bel0
  subst he
  exact ⟨_, rfl, _, _, _, [], _, [], hW', trodAll_mk1 (shut_bool Try.underlying4 _), (trodAll_cons_mk (Below.trod laidOut (by kernel_rfl) (of_decide_eq_true (by kernel_rfl)) k0 bel lt0) (trodAll_cons_mk (shut_int Try.underlying3 w1) (trodAll_cons_mk (shut_int Try.underlying3 w2) (trodAll_cons_mk (shut_string Try.underlying9 w3) trodAll_mk0)))), rfl, bel.frame _, fun h => by cases h⟩
theorem over : Rows.fnExactPutAtomRow.holds Try.pinned (OpenSpec.ofChange Rows.fnExactPutAtomSpec) :=
  OpenClaim.holds_of_wide 3 Try.f3 rfl rfl rfl rfl rfl rfl rfl ⟨rfl, rfl, rfl, rfl, rfl⟩ rfl rfl rfl rfl rfl (by kernel_rfl) Try.func3 (by kernel_rfl)
    (of_decide_eq_true (by kernel_rfl)) (by unfold Func.isWrapper; first | (rw [if_pos (by decide +kernel)]; kernel_rfl) | (rw [if_neg (by decide +kernel)]; exact ⟨rfl, rfl⟩))
    (fun os started H enc _ => lifted os started H enc)
theorem proved : Rows.FnExactPutAtomSaid := over
#print axioms proved
end Go.Proofs.Ytejilfaioooabaa.fnExactPutAtom
namespace Go.Proofs.Ytejilfaioooabaa
theorem fnExactPutAtom_holds : Rows.FnExactPutAtomSaid := fnExactPutAtom.proved
end Go.Proofs.Ytejilfaioooabaa
