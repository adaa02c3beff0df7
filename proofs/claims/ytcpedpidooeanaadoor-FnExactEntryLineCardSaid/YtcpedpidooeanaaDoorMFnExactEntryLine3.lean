/- The law FnExactEntryLine of the program: its proof, part 3. -/
import Derived.Test.YtcpedpidooeanaaDoorMFnExactEntryLine1
import Derived.Test.YtcpedpidooeanaaDoorMFnExactEntryLine2
import Derived.ProofKit
import Derived.OpenShut
import Derived.ChangeSlices
import Derived.Test.YtcpedpidooeanaaDoorRows
import Derived.Test.YtcpedpidooeanaaDoorTie
import Derived.Test.YtcpedpidooeanaaDoorCards
import Derived.WalkKit
import Derived.ShutString
import Derived.ChangeOld
import Derived.Below
import Derived.SizedLaws
import Derived.LaidMore
import Derived.LaidSub
import Derived.Stop.Joined
import Derived.Lib.LaidTab
import Derived.SevenTiedAt
set_option linter.unusedVariables false
set_option linter.unusedSimpArgs false
namespace Go.Proofs.YtcpedpidooeanaaDoor.X
open Go.RowKit Go.Proofs.YtcpedpidooeanaaDoorW.PrintWords Go.Proofs.YtcpedpidooeanaaDoorW.PrintLast Go.Proofs.YtcpedpidooeanaaDoorW.PrintMore
section
attribute [local go_sem] max2_int min2_int max_two min_two max_three min_three max_four min_four
def laws_FnExactEntryLine.j0 : Nat → Bool → Int → Int → List (S52) → Int → Int → List (S55) → Option (Bool)
  | 0, _, _, _, _, _, _, _ => none
  | k + 1, x34, x102000, x102001, x102002, x116000, x116001, x116002 => if x34 = true then (some false) else ((laws_toEntry.f k x102000 x102001 x102002).bind fun bt118 => ((laws_eqEntry.f k x116000 x116001 x116002 bt118.1 bt118.2.1 bt118.2.2).bind fun t123 => (if t123 = true then (some true) else (some false))))
def laws_FnExactEntryLine.f (k : Nat) (a0_0 : Int) (a0_1 : Int) (l0_2 : List (S52)) : Option (Bool) := (laws_szEntry.f k a0_0 a0_1 l0_2 1048576).bind fun t102 => (if t102 < 0 then (some true) else ((laws_toEntry.f k a0_0 a0_1 l0_2).bind fun bt103 => ((spec_EntryLine.f k bt103.1 bt103.2.1 bt103.2.2).bind fun bt108 => ((laws_toEntry.f k a0_0 a0_1 l0_2).bind fun bt110 => ((impl_EntryLine.f k bt110.1 bt110.2.1 bt110.2.2).bind fun bt116 => (if bt116.1.toList = bt108.1.toList then (laws_FnExactEntryLine.j0 k (bt116.2 != bt108.2) a0_0 a0_1 l0_2 bt110.1 bt110.2.1 bt110.2.2) else (laws_FnExactEntryLine.j0 k true a0_0 a0_1 l0_2 bt110.1 bt110.2.1 bt110.2.2)))))))
set_option maxHeartbeats 8000000 in
set_option maxRecDepth 100000 in
theorem laws_FnExactEntryLine.calls (k : Nat) (a0_0 : Int) (a0_1 : Int) (A0_2 : Option Addr) (c0_2 : Nat) (l0_2 : List (S52)) (r : Bool) (w : World) (hr0_2 : Kd.C k52 w A0_2 l0_2.length l0_2) (hc0_2 : l0_2.length ≤ c0_2) (h : laws_FnExactEntryLine.f k a0_0 a0_1 l0_2 = some r) (htab : Tab w) :
    Calls Tryd.prog 4 #[.agg #[.int .i64 a0_0, .int .i64 a0_1, .slice A0_2 l0_2.length c0_2]] w fun e w' => e = .returned (.bool r) ∧ Below w.heap.size w w' := by
  have HTab := mz htab
  clear htab
  have hu31 := Tryd.underlying31
  have hu35 := Tryd.underlying35
  have HR0_2 := mz hr0_2
  have HC0_2 := mz hc0_2
  clear hr0_2 hc0_2
  have HB := mz (Below.refl w.heap.size w)
  have H : ((laws_szEntry.f k a0_0 a0_1 l0_2 1048576).bind fun t102 => (if t102 < 0 then (some true) else ((laws_toEntry.f k a0_0 a0_1 l0_2).bind fun bt103 => ((spec_EntryLine.f k bt103.1 bt103.2.1 bt103.2.2).bind fun bt108 => ((laws_toEntry.f k a0_0 a0_1 l0_2).bind fun bt110 => ((impl_EntryLine.f k bt110.1 bt110.2.1 bt110.2.2).bind fun bt116 => (if bt116.1.toList = bt108.1.toList then (laws_FnExactEntryLine.j0 k (bt116.2 != bt108.2) a0_0 a0_1 l0_2 bt110.1 bt110.2.1 bt110.2.2) else (laws_FnExactEntryLine.j0 k true a0_0 a0_1 l0_2 bt110.1 bt110.2.1 bt110.2.2)))))))) = some r := h
  clear h
  replace H := be0_ H
  obtain ⟨t102, A20, H⟩ := H
  replace H : (if t102 < 0 then (some true) else ((laws_toEntry.f k a0_0 a0_1 l0_2).bind fun bt103 => ((spec_EntryLine.f k bt103.1 bt103.2.1 bt103.2.2).bind fun bt108 => ((laws_toEntry.f k a0_0 a0_1 l0_2).bind fun bt110 => ((impl_EntryLine.f k bt110.1 bt110.2.1 bt110.2.2).bind fun bt116 => (if bt116.1.toList = bt108.1.toList then (laws_FnExactEntryLine.j0 k (bt116.2 != bt108.2) a0_0 a0_1 l0_2 bt110.1 bt110.2.1 bt110.2.2) else (laws_FnExactEntryLine.j0 k true a0_0 a0_1 l0_2 bt110.1 bt110.2.1 bt110.2.2))))))) = some r := H
  have A2 := mz A20
  clear A20
  by_cases c3 : t102 < 0
  · rw [if_pos c3] at H
    have c3b0 : decide (t102 < 0) = true := decide_eq_true c3
    clear c3
    obtain rfl := Option.some.inj H
    go_enter Tryd.func4, Tryd.ntmps4
    go_wp2_with (first | ((with_reducible refine gate_dst (N := 1) rfl ?_); refine box_event ?hg (N := 1) ?hd (cs := #[.int .i64 a0_0, .int .i64 a0_1, .slice A0_2 l0_2.length c0_2]) (t := 31) ?hr ?_; (case hd => rfl); (case hg => rfl); (case hr => first | (go_simp; done) | (go_simp; rfl)); intro gb101 hg w4 hbox hb; have n0_ := mz (below_step (by repeat (first | (with_reducible first | exact HB.out | apply below_alloc | apply pw_below_drewN | apply below_drew1) | exact HB.out)) hb); have n1_ := mz (hbox); have n2_ := mz ((by rw [hg]; exact (below_size (by repeat (first | (with_reducible first | exact HB.out | apply below_alloc | apply pw_below_drewN | apply below_drew1) | exact HB.out))) : w.heap.size ≤ gb101)); have n3_ := mz ((by rw [hg]; exact (below_size (by repeat (first | (with_reducible first | exact HB.out | apply below_alloc | apply pw_below_drewN | apply below_drew1) | exact HB.out))) : w.heap.size ≤ gb101)); clear HB; have HB := n0_; have BK101 := n1_; have GW101 := n2_; have GE101 := n3_; clear n0_ n1_ n2_ n3_; clear hb hbox hg; have hcz5_0 : w4.cell? ⟨gb101, 0, none⟩ = some (.int .i64 a0_0) := (blk_cell BK101.out 0).trans rfl; have hcz5_1 : w4.cell? ⟨gb101, 1, none⟩ = some (.int .i64 a0_1) := (blk_cell BK101.out 1).trans rfl; have hcz5_2 : w4.cell? ⟨gb101, 2, none⟩ = some (.slice A0_2 l0_2.length c0_2) := (blk_cell BK101.out 2).trans rfl; have hfz5_0 := blk_frozen BK101.out 0; have hfz5_1 := blk_frozen BK101.out 1; have hfz5_2 := blk_frozen BK101.out 2) | ((with_reducible refine gate_callee (f := 11) rfl ?_); refine goesL_ (some 11) rfl rfl Tryd.func11 (by kernel_rfl) rfl #[.agg #[.int .i64 a0_0, .int .i64 a0_1, .slice A0_2 l0_2.length c0_2], .int .i64 1048576] rfl (by (try simp only [List.map_toArray, List.map_cons, List.map_nil]); first | done | rfl | (simp only [List.length_drop, List.length_take]; rfl)) ?_; (with_reducible refine (laws_szEntry.calls k a0_0 a0_1 _ _ l0_2 1048576 t102 _ ?side1 ?side2 A2.out).mono ?_); (case side1 => repeat (first | exact (Kd.C_below HR0_2.out HB.out) | (with_reducible refine Kd.C_alloc ?_ _) | (with_reducible refine Kd.C_drewN ?_ _) | (with_reducible refine Kd.C_drew ?_))); (case side2 => exact HC0_2.out); rintro e w6 ⟨rfl, hb⟩; refine ⟨_, rfl, ?_⟩; have n0_ := mz (blk_below (g := gb101) (o := .cells #[.int .i64 a0_0, .int .i64 a0_1, .slice A0_2 l0_2.length c0_2] 31 (0, 0)) (by (with_reducible repeat (first | refine blk_drewN ?_ _ | refine blk_drew ?_ | refine blk_alloc ?_ _)); exact BK101.out) hb); have n1_ := mz (below_step (by repeat (first | (with_reducible first | exact HB.out | apply below_alloc | apply pw_below_drewN | apply below_drew1 | refine below_set ?_ GE101.out) | exact HB.out)) hb); clear BK101; clear HB; have BK101 := n0_; have HB := n1_; clear n0_ n1_; (try clear hb); (try clear hb2); (try clear hk); (try clear hi)))
    go_ret
    exact ⟨by first | rfl | (simp [errW_none, errW_some] <;> rfl) | (simp [*, errW_none, errW_some] <;> rfl), by repeat (first | (with_reducible first | exact HB.out | apply below_alloc | apply pw_below_drewN | apply below_drew1 | refine below_set ?_ GE101.out) | exact HB.out)⟩
  · rw [if_neg c3] at H
    have c3b0 : decide (t102 < 0) = false := decide_eq_false c3
    clear c3
    replace H := be0_ H
    obtain ⟨⟨t103, t104, t105⟩, A70, H⟩ := H
    replace H : ((spec_EntryLine.f k t103 t104 t105).bind fun bt108 => ((laws_toEntry.f k a0_0 a0_1 l0_2).bind fun bt110 => ((impl_EntryLine.f k bt110.1 bt110.2.1 bt110.2.2).bind fun bt116 => (if bt116.1.toList = bt108.1.toList then (laws_FnExactEntryLine.j0 k (bt116.2 != bt108.2) a0_0 a0_1 l0_2 bt110.1 bt110.2.1 bt110.2.2) else (laws_FnExactEntryLine.j0 k true a0_0 a0_1 l0_2 bt110.1 bt110.2.1 bt110.2.2))))) = some r := H
    have A7 := mz A70
    clear A70
    replace H := be0_ H
    obtain ⟨⟨t108, t109⟩, A80, H⟩ := H
    replace H : ((laws_toEntry.f k a0_0 a0_1 l0_2).bind fun bt110 => ((impl_EntryLine.f k bt110.1 bt110.2.1 bt110.2.2).bind fun bt116 => (if bt116.1.toList = t108.toList then (laws_FnExactEntryLine.j0 k (bt116.2 != t109) a0_0 a0_1 l0_2 bt110.1 bt110.2.1 bt110.2.2) else (laws_FnExactEntryLine.j0 k true a0_0 a0_1 l0_2 bt110.1 bt110.2.1 bt110.2.2)))) = some r := H
    have A8 := mz A80
    clear A80
    replace H := be0_ H
    obtain ⟨⟨t110, t111, t112⟩, A90, H⟩ := H
    replace H : ((impl_EntryLine.f k t110 t111 t112).bind fun bt116 => (if bt116.1.toList = t108.toList then (laws_FnExactEntryLine.j0 k (bt116.2 != t109) a0_0 a0_1 l0_2 t110 t111 t112) else (laws_FnExactEntryLine.j0 k true a0_0 a0_1 l0_2 t110 t111 t112))) = some r := H
    have A9 := mz A90
    clear A90
    replace H := be0_ H
    obtain ⟨⟨t116, t117⟩, A100, H⟩ := H
    replace H : (if t116.toList = t108.toList then (laws_FnExactEntryLine.j0 k (t117 != t109) a0_0 a0_1 l0_2 t110 t111 t112) else (laws_FnExactEntryLine.j0 k true a0_0 a0_1 l0_2 t110 t111 t112)) = some r := H
    have A10 := mz A100
    clear A100
    have HC11 := mz H
    clear H
    go_enter Tryd.func4, Tryd.ntmps4
    go_upto_region 8 with (first | ((with_reducible refine gate_dst (N := 1) rfl ?_); refine box_event ?hg (N := 1) ?hd (cs := #[.int .i64 a0_0, .int .i64 a0_1, .slice A0_2 l0_2.length c0_2]) (t := 31) ?hr ?_; (case hd => rfl); (case hg => rfl); (case hr => first | (go_simp; done) | (go_simp; rfl)); intro gb101 hg w12 hbox hb; have n0_ := mz (below_step (by repeat (first | (with_reducible first | exact HB.out | apply below_alloc | apply pw_below_drewN | apply below_drew1) | exact HB.out)) hb); have n1_ := mz (hbox); have n2_ := mz ((by rw [hg]; exact (below_size (by repeat (first | (with_reducible first | exact HB.out | apply below_alloc | apply pw_below_drewN | apply below_drew1) | exact HB.out))) : w.heap.size ≤ gb101)); have n3_ := mz ((by rw [hg]; exact (below_size (by repeat (first | (with_reducible first | exact HB.out | apply below_alloc | apply pw_below_drewN | apply below_drew1) | exact HB.out))) : w.heap.size ≤ gb101)); clear HB; have HB := n0_; have BK101 := n1_; have GW101 := n2_; have GE101 := n3_; clear n0_ n1_ n2_ n3_; clear hb hbox hg; have hcz13_0 : w12.cell? ⟨gb101, 0, none⟩ = some (.int .i64 a0_0) := (blk_cell BK101.out 0).trans rfl; have hcz13_1 : w12.cell? ⟨gb101, 1, none⟩ = some (.int .i64 a0_1) := (blk_cell BK101.out 1).trans rfl; have hcz13_2 : w12.cell? ⟨gb101, 2, none⟩ = some (.slice A0_2 l0_2.length c0_2) := (blk_cell BK101.out 2).trans rfl; have hfz13_0 := blk_frozen BK101.out 0; have hfz13_1 := blk_frozen BK101.out 1; have hfz13_2 := blk_frozen BK101.out 2) | ((with_reducible refine gate_callee (f := 11) rfl ?_); refine goesL_ (some 11) rfl rfl Tryd.func11 (by kernel_rfl) rfl #[.agg #[.int .i64 a0_0, .int .i64 a0_1, .slice A0_2 l0_2.length c0_2], .int .i64 1048576] rfl (by (try simp only [List.map_toArray, List.map_cons, List.map_nil]); first | done | rfl | (simp only [List.length_drop, List.length_take]; rfl)) ?_; (with_reducible refine (laws_szEntry.calls k a0_0 a0_1 _ _ l0_2 1048576 t102 _ ?side1 ?side2 A2.out).mono ?_); (case side1 => repeat (first | exact (Kd.C_below HR0_2.out HB.out) | (with_reducible refine Kd.C_alloc ?_ _) | (with_reducible refine Kd.C_drewN ?_ _) | (with_reducible refine Kd.C_drew ?_))); (case side2 => exact HC0_2.out); rintro e w14 ⟨rfl, hb⟩; refine ⟨_, rfl, ?_⟩; have n0_ := mz (blk_below (g := gb101) (o := .cells #[.int .i64 a0_0, .int .i64 a0_1, .slice A0_2 l0_2.length c0_2] 31 (0, 0)) (by (with_reducible repeat (first | refine blk_drewN ?_ _ | refine blk_drew ?_ | refine blk_alloc ?_ _)); exact BK101.out) hb); have n1_ := mz (below_step (by repeat (first | (with_reducible first | exact HB.out | apply below_alloc | apply pw_below_drewN | apply below_drew1 | refine below_set ?_ GE101.out) | exact HB.out)) hb); clear BK101; clear HB; have BK101 := n0_; have HB := n1_; clear n0_ n1_; (try clear hb); (try clear hb2); (try clear hk); (try clear hi); have hcz15_0 : w14.cell? ⟨gb101, 0, none⟩ = some (.int .i64 a0_0) := (blk_cell BK101.out 0).trans rfl; have hcz15_1 : w14.cell? ⟨gb101, 1, none⟩ = some (.int .i64 a0_1) := (blk_cell BK101.out 1).trans rfl; have hcz15_2 : w14.cell? ⟨gb101, 2, none⟩ = some (.slice A0_2 l0_2.length c0_2) := (blk_cell BK101.out 2).trans rfl; have hfz15_0 := blk_frozen BK101.out 0; have hfz15_1 := blk_frozen BK101.out 1; have hfz15_2 := blk_frozen BK101.out 2) | ((with_reducible refine gate_callee (f := 13) rfl ?_); refine goesL_ (some 16) rfl rfl Tryd.func13 (by kernel_rfl) rfl #[.agg #[.int .i64 a0_0, .int .i64 a0_1, .slice A0_2 l0_2.length c0_2]] rfl (by (try simp only [List.map_toArray, List.map_cons, List.map_nil]); first | done | rfl | (simp only [List.length_drop, List.length_take]; rfl)) ?_; (with_reducible refine (laws_toEntry.calls k a0_0 a0_1 _ _ l0_2 t103 t104 t105 _ ?side1 ?side2 A7.out).mono ?_); (case side1 => repeat (first | exact (Kd.C_below HR0_2.out HB.out) | (with_reducible refine Kd.C_alloc ?_ _) | (with_reducible refine Kd.C_drewN ?_ _) | (with_reducible refine Kd.C_drew ?_))); (case side2 => exact HC0_2.out); rintro e w16 ⟨v106, rfl, ho0, hb⟩; refine ⟨_, rfl, ?_⟩; have n0_ := mz (Kd.R_lower ho0 (below_size (by repeat (first | (with_reducible first | exact HB.out | apply below_alloc | apply pw_below_drewN | apply below_drew1 | refine below_set ?_ GE101.out) | exact HB.out)))); have n1_ := mz (blk_below (g := gb101) (o := .cells #[.int .i64 a0_0, .int .i64 a0_1, .slice A0_2 l0_2.length c0_2] 31 (0, 0)) (by (with_reducible repeat (first | refine blk_drewN ?_ _ | refine blk_drew ?_ | refine blk_alloc ?_ _)); exact BK101.out) hb); have n2_ := mz (below_step (by repeat (first | (with_reducible first | exact HB.out | apply below_alloc | apply pw_below_drewN | apply below_drew1 | refine below_set ?_ GE101.out) | exact HB.out)) hb); clear BK101; clear HB; have HO107 := n0_; have BK101 := n1_; have HB := n2_; clear n0_ n1_ n2_; (try clear hb); (try clear hb2); (try clear hk); (try clear hi); (try clear ho0); obtain ⟨Ao17, co17, eo17⟩ := Kd.R_slice HO107.out; subst eo17) | ((with_reducible refine gate_callee (f := 12) rfl ?_); refine goesL_ (some 17) rfl rfl Tryd.func12 (by kernel_rfl) rfl #[.agg #[.int .i64 t103, .int .i64 t104, .slice Ao17 t105.length co17]] rfl (by (try simp only [List.map_toArray, List.map_cons, List.map_nil]); first | done | rfl | (simp only [List.length_drop, List.length_take]; rfl)) ?_; (with_reducible refine (spec_EntryLine.calls k t103 t104 _ _ t105 t108 t109 _ ?side1 ?side2 A8.out).mono ?_); (case side1 => repeat (first | exact (Kd.R_reads' HO107.out).2.2 | (with_reducible refine Kd.C_alloc ?_ _) | (with_reducible refine Kd.C_drewN ?_ _) | (with_reducible refine Kd.C_drew ?_))); (case side2 => exact (Kd.R_reads' HO107.out).2.1); rintro e w18 ⟨rfl, hb⟩; refine ⟨_, rfl, ?_⟩; have n0_ := mz (Kd.R_below (by (with_reducible repeat (first | apply Kd.R_alloc | apply Kd.R_drewN | apply Kd.R_drew)); exact HO107.out) hb); have n1_ := mz (blk_below (g := gb101) (o := .cells #[.int .i64 a0_0, .int .i64 a0_1, .slice A0_2 l0_2.length c0_2] 31 (0, 0)) (by (with_reducible repeat (first | refine blk_drewN ?_ _ | refine blk_drew ?_ | refine blk_alloc ?_ _)); exact BK101.out) hb); have n2_ := mz (below_step (by repeat (first | (with_reducible first | exact HB.out | apply below_alloc | apply pw_below_drewN | apply below_drew1 | refine below_set ?_ GE101.out) | exact HB.out)) hb); clear HO107; clear BK101; clear HB; have HO107 := n0_; have BK101 := n1_; have HB := n2_; clear n0_ n1_ n2_; (try clear hb); (try clear hb2); (try clear hk); (try clear hi); have hcz19_0 : w18.cell? ⟨gb101, 0, none⟩ = some (.int .i64 a0_0) := (blk_cell BK101.out 0).trans rfl; have hcz19_1 : w18.cell? ⟨gb101, 1, none⟩ = some (.int .i64 a0_1) := (blk_cell BK101.out 1).trans rfl; have hcz19_2 : w18.cell? ⟨gb101, 2, none⟩ = some (.slice A0_2 l0_2.length c0_2) := (blk_cell BK101.out 2).trans rfl; have hfz19_0 := blk_frozen BK101.out 0; have hfz19_1 := blk_frozen BK101.out 1; have hfz19_2 := blk_frozen BK101.out 2) | ((with_reducible refine gate_callee (f := 13) rfl ?_); refine goesL_ (some 21) rfl rfl Tryd.func13 (by kernel_rfl) rfl #[.agg #[.int .i64 a0_0, .int .i64 a0_1, .slice A0_2 l0_2.length c0_2]] rfl (by (try simp only [List.map_toArray, List.map_cons, List.map_nil]); first | done | rfl | (simp only [List.length_drop, List.length_take]; rfl)) ?_; (with_reducible refine (laws_toEntry.calls k a0_0 a0_1 _ _ l0_2 t110 t111 t112 _ ?side1 ?side2 A9.out).mono ?_); (case side1 => repeat (first | exact (Kd.C_below HR0_2.out HB.out) | (with_reducible refine Kd.C_alloc ?_ _) | (with_reducible refine Kd.C_drewN ?_ _) | (with_reducible refine Kd.C_drew ?_))); (case side2 => exact HC0_2.out); rintro e w20 ⟨v113, rfl, ho0, hb⟩; refine ⟨_, rfl, ?_⟩; have n0_ := mz (Kd.R_elder' (by (with_reducible repeat (first | apply Kd.R_alloc | apply Kd.R_drewN | apply Kd.R_drew)); exact HO107.out) (Kd.R_base ho0) hb); have n1_ := mz (Kd.R_lower (Kd.R_new' ho0 (Kd.R_lt (by (with_reducible repeat (first | apply Kd.R_alloc | apply Kd.R_drewN | apply Kd.R_drew)); exact HO107.out))) (below_size (by repeat (first | (with_reducible first | exact HB.out | apply below_alloc | apply pw_below_drewN | apply below_drew1 | refine below_set ?_ GE101.out) | exact HB.out)))); have n2_ := mz (blk_below (g := gb101) (o := .cells #[.int .i64 a0_0, .int .i64 a0_1, .slice A0_2 l0_2.length c0_2] 31 (0, 0)) (by (with_reducible repeat (first | refine blk_drewN ?_ _ | refine blk_drew ?_ | refine blk_alloc ?_ _)); exact BK101.out) hb); have n3_ := mz (below_step (by repeat (first | (with_reducible first | exact HB.out | apply below_alloc | apply pw_below_drewN | apply below_drew1 | refine below_set ?_ GE101.out) | exact HB.out)) hb); clear HO107; clear BK101; clear HB; have HO107 := n0_; have HO114 := n1_; have BK101 := n2_; have HB := n3_; clear n0_ n1_ n2_ n3_; (try clear hb); (try clear hb2); (try clear hk); (try clear hi); (try clear ho0)) | ((with_reducible refine gate_dst (N := 6) rfl ?_); refine box_event ?hg (N := 6) ?hd (cs := #[.int .i64 0, .int .i64 0, .slice none 0 0]) (t := 35) ?hr ?_; (case hd => rfl); (case hg => rfl); (case hr => first | (go_simp; done) | (go_simp; rfl)); intro gb115 hg w21 hbox hb; have n0_ := mz (Kd.R_below (by (with_reducible repeat (first | apply Kd.R_alloc | apply Kd.R_drewN | apply Kd.R_drew)); exact HO107.out) hb); have n1_ := mz (Kd.R_below (by (with_reducible repeat (first | apply Kd.R_alloc | apply Kd.R_drewN | apply Kd.R_drew)); exact HO114.out) hb); have n2_ := mz (blk_below (g := gb101) (o := .cells #[.int .i64 a0_0, .int .i64 a0_1, .slice A0_2 l0_2.length c0_2] 31 (0, 0)) (by (with_reducible repeat (first | refine blk_drewN ?_ _ | refine blk_drew ?_ | refine blk_alloc ?_ _)); exact BK101.out) hb); have n3_ := mz (below_step (by repeat (first | (with_reducible first | exact HB.out | apply below_alloc | apply pw_below_drewN | apply below_drew1 | refine below_set ?_ GE101.out) | exact HB.out)) hb); have n4_ := mz (hbox); have n5_ := mz ((by rw [hg]; exact (below_size (by repeat (first | (with_reducible first | exact HB.out | apply below_alloc | apply pw_below_drewN | apply below_drew1 | refine below_set ?_ GE101.out) | exact HB.out))) : w.heap.size ≤ gb115)); have n6_ := mz ((by rw [hg]; exact (below_size (by repeat (first | (with_reducible first | exact HB.out | apply below_alloc | apply pw_below_drewN | apply below_drew1 | refine below_set ?_ GE101.out) | exact HB.out))) : w.heap.size ≤ gb115)); have n7_ := mz ((by rw [hg]; exact Nat.ne_of_lt (blk_lt (g := gb101) (o := .cells #[.int .i64 a0_0, .int .i64 a0_1, .slice A0_2 l0_2.length c0_2] 31 (0, 0)) (by (with_reducible repeat (first | refine blk_drewN ?_ _ | refine blk_drew ?_ | refine blk_alloc ?_ _)); exact BK101.out)) : gb101 ≠ gb115)); have n8_ := mz ((by rw [hg]; exact Nat.ne_of_gt (blk_lt (g := gb101) (o := .cells #[.int .i64 a0_0, .int .i64 a0_1, .slice A0_2 l0_2.length c0_2] 31 (0, 0)) (by (with_reducible repeat (first | refine blk_drewN ?_ _ | refine blk_drew ?_ | refine blk_alloc ?_ _)); exact BK101.out)) : gb115 ≠ gb101)); clear HO107; clear HO114; clear BK101; clear HB; have HO107 := n0_; have HO114 := n1_; have BK101 := n2_; have HB := n3_; have BK115 := n4_; have GW115 := n5_; have GE115 := n6_; have NB101_115 := n7_; have NB115_101 := n8_; clear n0_ n1_ n2_ n3_ n4_ n5_ n6_ n7_ n8_; clear hb hbox hg; have hnb22 := NB115_101.out; have hnc22 := NB101_115.out; have hcz23_0 : w21.cell? ⟨gb115, 0, none⟩ = some (.int .i64 0) := (blk_cell BK115.out 0).trans rfl; have hcz23_1 : w21.cell? ⟨gb115, 1, none⟩ = some (.int .i64 0) := (blk_cell BK115.out 1).trans rfl; have hcz23_2 : w21.cell? ⟨gb115, 2, none⟩ = some (.slice none 0 0) := (blk_cell BK115.out 2).trans rfl; have hfz23_0 := blk_frozen BK115.out 0; have hfz23_1 := blk_frozen BK115.out 1; have hfz23_2 := blk_frozen BK115.out 2; obtain ⟨Ao24, co24, eo24⟩ := Kd.R_slice HO114.out; subst eo24) | ((with_reducible refine gate_callee (f := 14) rfl ?_); refine goesL_ (some 24) rfl rfl Tryd.func14 (by kernel_rfl) rfl #[.agg #[.int .i64 t110, .int .i64 t111, .slice Ao24 t112.length co24]] rfl (by (try simp only [List.map_toArray, List.map_cons, List.map_nil]); first | done | rfl | (simp only [List.length_drop, List.length_take]; rfl)) ?_; (with_reducible refine (impl_EntryLine.calls k t110 t111 _ _ t112 t116 t117 _ ?side1 ?side2 A10.out (Tab.below HTab.out (by repeat (first | (with_reducible first | exact HB.out | apply below_alloc | apply pw_below_drewN | apply below_drew1 | refine below_set ?_ GE101.out | refine below_set ?_ GE115.out) | exact HB.out)))).mono ?_); (case side1 => refine (Kd.R_reads' (e := 55) (base := w.heap.size) (ok := fun k_ => (True ∧ some k_ ≠ (.slice Ao17 t105.length co17 : Value).ownBlock)) (n := t112.length) (c := co24) ?_).2.2; exact (by (with_reducible repeat (first | apply Kd.R_alloc | apply Kd.R_drewN | apply Kd.R_drew)); exact (Kd.R_mono (Kd.R_far (p := ⟨gb115, 2, none⟩) (Kd.R_far (p := ⟨gb115, 1, none⟩) (Kd.R_far (p := ⟨gb115, 0, none⟩) (Kd.R_types HO114.out BK115.out (by decide)) (fun _ hk => hk.2) (.int .i64 t110)) (fun _ hk => hk.2) (.int .i64 t111)) (fun _ hk => hk.2) (.slice Ao24 t112.length co24)) (fun _ h_ => h_.1)))); (case side2 => exact (Kd.R_reads' HO114.out).2.1); rintro e w25 ⟨rfl, hb⟩; refine ⟨_, rfl, ?_⟩; have n0_ := mz (Kd.R_below (by (with_reducible repeat (first | apply Kd.R_alloc | apply Kd.R_drewN | apply Kd.R_drew)); exact (Kd.R_mono (Kd.R_far (p := ⟨gb115, 2, none⟩) (Kd.R_far (p := ⟨gb115, 1, none⟩) (Kd.R_far (p := ⟨gb115, 0, none⟩) (Kd.R_types HO107.out BK115.out (by decide)) (fun _ hk => hk.2) (.int .i64 t110)) (fun _ hk => hk.2) (.int .i64 t111)) (fun _ hk => hk.2) (.slice Ao24 t112.length co24)) (fun _ h_ => h_.1))) hb); have n1_ := mz (Kd.R_below (by (with_reducible repeat (first | apply Kd.R_alloc | apply Kd.R_drewN | apply Kd.R_drew)); exact (Kd.R_mono (Kd.R_far (p := ⟨gb115, 2, none⟩) (Kd.R_far (p := ⟨gb115, 1, none⟩) (Kd.R_far (p := ⟨gb115, 0, none⟩) (Kd.R_types HO114.out BK115.out (by decide)) (fun _ hk => hk.2) (.int .i64 t110)) (fun _ hk => hk.2) (.int .i64 t111)) (fun _ hk => hk.2) (.slice Ao24 t112.length co24)) (fun _ h_ => h_.1))) hb); have n2_ := mz (blk_below (g := gb101) (o := .cells #[.int .i64 a0_0, .int .i64 a0_1, .slice A0_2 l0_2.length c0_2] 31 (0, 0)) (by (with_reducible repeat (first | refine blk_drewN ?_ _ | refine blk_drew ?_ | refine blk_alloc ?_ _)); refine blk_far ?_ NB101_115.out _; (with_reducible repeat (first | refine blk_drewN ?_ _ | refine blk_drew ?_ | refine blk_alloc ?_ _)); refine blk_far ?_ NB101_115.out _; (with_reducible repeat (first | refine blk_drewN ?_ _ | refine blk_drew ?_ | refine blk_alloc ?_ _)); refine blk_far ?_ NB101_115.out _; (with_reducible repeat (first | refine blk_drewN ?_ _ | refine blk_drew ?_ | refine blk_alloc ?_ _)); exact BK101.out) hb); have n3_ := mz (blk_below (g := gb115) (o := .cells #[.int .i64 t110, .int .i64 t111, .slice Ao24 t112.length co24] 35 (0, 0)) (by (with_reducible repeat (first | refine blk_drewN ?_ _ | refine blk_drew ?_ | refine blk_alloc ?_ _)); refine blk_put (cs := #[.int .i64 t110, .int .i64 t111, .slice none 0 0]) ?_ 2 _ rfl; (with_reducible repeat (first | refine blk_drewN ?_ _ | refine blk_drew ?_ | refine blk_alloc ?_ _)); refine blk_put (cs := #[.int .i64 t110, .int .i64 0, .slice none 0 0]) ?_ 1 _ rfl; (with_reducible repeat (first | refine blk_drewN ?_ _ | refine blk_drew ?_ | refine blk_alloc ?_ _)); refine blk_put (cs := #[.int .i64 0, .int .i64 0, .slice none 0 0]) ?_ 0 _ rfl; (with_reducible repeat (first | refine blk_drewN ?_ _ | refine blk_drew ?_ | refine blk_alloc ?_ _)); exact BK115.out) hb); have n4_ := mz (below_step (by repeat (first | (with_reducible first | exact HB.out | apply below_alloc | apply pw_below_drewN | apply below_drew1 | refine below_set ?_ GE101.out | refine below_set ?_ GE115.out) | exact HB.out)) hb); clear HO107; clear HO114; clear BK101; clear BK115; clear HB; have HO107 := n0_; have HO114 := n1_; have BK101 := n2_; have BK115 := n3_; have HB := n4_; clear n0_ n1_ n2_ n3_ n4_; (try clear hb); (try clear hb2); (try clear hk); (try clear hi)))
    (try simp only [Act.put, List.setIfInBounds_toArray, List.set_cons_zero, List.set_cons_succ])
    go_cut [34] (fun v34 wc => ∃ (kq : Nat) (x34_10 : Bool), v34 = .bool x34_10 ∧ Aside0 (laws_FnExactEntryLine.j0 kq x34_10 a0_0 a0_1 l0_2 t110 t111 t112 = some r) ∧ Aside0 (kq ≤ k) ∧ Aside0 (Kd.R k55 55 wc w.heap.size (fun _ => True) (.slice Ao24 t112.length co24) t112) ∧ Aside0 (wc.heap[gb101]? = some (.cells #[.int .i64 a0_0, .int .i64 a0_1, (.slice A0_2 l0_2.length c0_2)] 31 (0, 0))) ∧ Aside0 (wc.heap[gb115]? = some (.cells #[.int .i64 t110, .int .i64 t111, (.slice Ao24 t112.length co24)] 35 (0, 0))) ∧ Aside0 (Below w.heap.size w wc))
    case first =>
      have H := HC11.out
      clear HC11
      by_cases c26 : t116.toList = t108.toList
      · rw [if_pos c26] at H
        have c26b0 : (t116.toList == t108.toList) = true := beq_iff_eq.mpr c26
        have c26b1 : (t116.toList != t108.toList) = false := bne_eq_false_iff_eq.mpr c26
        clear c26
        (first | rw [c26b0] | (simp only [i64_w, i32_w]; rw [c26b0]) | skip)
        have H' := mz H
        clear H
        go_wp2
        go_meet
        case rel => exact ⟨_, ((t117 != t109)), (by first | rfl | (simp; done) | (simp [*]; done)), H', ⟨by first | omega | exact Nat.le_refl _⟩, ⟨by (with_reducible repeat (first | apply Kd.R_alloc | apply Kd.R_drewN | apply Kd.R_drew)); exact Kd.R_mono HO114.out (fun _ hk => trivial)⟩, ⟨by (with_reducible repeat (first | refine blk_drewN ?_ _ | refine blk_drew ?_ | refine blk_alloc ?_ _)); exact BK101.out⟩, ⟨by (with_reducible repeat (first | refine blk_drewN ?_ _ | refine blk_drew ?_ | refine blk_alloc ?_ _)); exact BK115.out⟩, ⟨by repeat (first | (with_reducible first | exact HB.out | apply below_alloc | apply pw_below_drewN | apply below_drew1 | refine below_set ?_ GE101.out | refine below_set ?_ GE115.out) | exact HB.out)⟩⟩
      · rw [if_neg c26] at H
        have c26b0 : (t116.toList == t108.toList) = false := beq_eq_false_iff_ne.mpr c26
        have c26b1 : (t116.toList != t108.toList) = true := bne_iff_ne.mpr c26
        (first | rw [c26b0] | (simp only [i64_w, i32_w]; rw [c26b0]) | skip)
        have H' := mz H
        clear H
        go_wp2
        go_meet
        case rel => exact ⟨_, (true), (by first | rfl | (simp; done) | (simp [*]; done)), H', ⟨by first | omega | exact Nat.le_refl _⟩, ⟨by (with_reducible repeat (first | apply Kd.R_alloc | apply Kd.R_drewN | apply Kd.R_drew)); exact Kd.R_mono HO114.out (fun _ hk => trivial)⟩, ⟨by (with_reducible repeat (first | refine blk_drewN ?_ _ | refine blk_drew ?_ | refine blk_alloc ?_ _)); exact BK101.out⟩, ⟨by (with_reducible repeat (first | refine blk_drewN ?_ _ | refine blk_drew ?_ | refine blk_alloc ?_ _)); exact BK115.out⟩, ⟨by repeat (first | (with_reducible first | exact HB.out | apply below_alloc | apply pw_below_drewN | apply below_drew1 | refine below_set ?_ GE101.out | refine below_set ?_ GE115.out) | exact HB.out)⟩⟩
    case rest =>
      clear HC11
      try clear c1
      try clear c2
      try clear p2
      try clear c3
      try clear c3b0
      try clear c4
      try clear c11
      try clear c12
      try clear c13
      try clear c14
      try clear c22
      try clear c26
      try clear c26b0
      try clear c26b1
      try clear hcz13_0
      try clear hcz13_1
      try clear hcz13_2
      try clear hcz15_0
      try clear hcz15_1
      try clear hcz15_2
      try clear hcz19_0
      try clear hcz19_1
      try clear hcz19_2
      try clear hcz23_0
      try clear hcz23_1
      try clear hcz23_2
      try clear hcz5_0
      try clear hcz5_1
      try clear hcz5_2
      try clear hfz13_0
      try clear hfz13_1
      try clear hfz13_2
      try clear hfz15_0
      try clear hfz15_1
      try clear hfz15_2
      try clear hfz19_0
      try clear hfz19_1
      try clear hfz19_2
      try clear hfz23_0
      try clear hfz23_1
      try clear hfz23_2
      try clear hfz5_0
      try clear hfz5_1
      try clear hfz5_2
      obtain ⟨kq, x34_10, rfl, HA, HJ10, HO_116002, BK101, BK115, HB⟩ := hcut
      cases kq with
      | zero => exact absurd HA.out (by simp [laws_FnExactEntryLine.j0])
      | succ kj10 =>
        have H := HA.out
        clear HA
        simp only [laws_FnExactEntryLine.j0] at H
        by_cases c27 : x34_10 = true
        · subst c27
          have H1 : (some false) = some r := by rw [if_pos rfl] at H; exact H
          clear H
          have H := H1
          clear H1
          obtain rfl := Option.some.inj H
          go_wp2
          go_ret
          exact ⟨by first | rfl | (simp [errW_none, errW_some] <;> rfl) | (simp [*, errW_none, errW_some] <;> rfl), by repeat (first | (with_reducible first | exact HB.out | apply below_alloc | apply pw_below_drewN | apply below_drew1 | refine below_set ?_ GE101.out | refine below_set ?_ GE115.out) | exact HB.out)⟩
        · replace c27 := Bool.eq_false_iff.mpr c27
          subst c27
          have H1 : ((laws_toEntry.f kj10 a0_0 a0_1 l0_2).bind fun bt118 => ((laws_eqEntry.f kj10 t110 t111 t112 bt118.1 bt118.2.1 bt118.2.2).bind fun t123 => (if t123 = true then (some true) else (some false)))) = some r := by rw [if_neg (show ¬ (false = true) by decide)] at H; exact H
          clear H
          have H := H1
          clear H1
          replace H := be0_ H
          obtain ⟨⟨t118, t119, t120⟩, A280, H⟩ := H
          replace H : ((laws_eqEntry.f kj10 t110 t111 t112 t118 t119 t120).bind fun t123 => (if t123 = true then (some true) else (some false))) = some r := H
          have A28 := mz A280
          clear A280
          replace H := be0_ H
          obtain ⟨t123, A290, H⟩ := H
          replace H : (if t123 = true then (some true) else (some false)) = some r := H
          have A29 := mz A290
          clear A290
          by_cases c30 : t123 = true
          · subst c30
            have H1 : (some true) = some r := by rw [if_pos rfl] at H; exact H
            clear H
            have H := H1
            clear H1
            obtain rfl := Option.some.inj H
            try go_wp2
            have n0_ := mz (Kd.R_drew HO_116002.out)
            have n1_ := mz (blk_drew BK101.out)
            have n2_ := mz (blk_drew BK115.out)
            have n3_ := mz (below_drew1 HB.out)
            clear HO_116002
            clear BK101
            clear BK115
            clear HB
            have HO_116002 := n0_
            have BK101 := n1_
            have BK115 := n2_
            have HB := n3_
            clear n0_ n1_ n2_ n3_
            refine start_ (n := 5) (S := fun w' => w'.cell? ⟨gb115, 0, none⟩ = some (.int .i64 t110) ∧ w'.cell? ⟨gb115, 1, none⟩ = some (.int .i64 t111) ∧ w'.cell? ⟨gb115, 2, none⟩ = some (.slice Ao24 t112.length co24) ∧ w'.cell? ⟨gb101, 0, none⟩ = some (.int .i64 a0_0) ∧ w'.cell? ⟨gb101, 1, none⟩ = some (.int .i64 a0_1) ∧ w'.cell? ⟨gb101, 2, none⟩ = some (.slice A0_2 l0_2.length c0_2)) (ds := []) #[false, false, false, false, false] (by kernel_rfl) rfl rfl ⟨(blk_cell BK115.out 0).trans rfl, (blk_cell BK115.out 1).trans rfl, (blk_cell BK115.out 2).trans rfl, (blk_cell BK101.out 0).trans rfl, (blk_cell BK101.out 1).trans rfl, (blk_cell BK101.out 2).trans rfl⟩ (fun hHeld => ?_)
            generalize wc.drew = w31 at HO_116002 BK101 BK115 HB hHeld ⊢
            refine take_ (i := 0) (N := some 35) (v := ?_) (a' := ?_) #[true, false, false, false, false] rfl rfl (by kernel_rfl) (fun _ _ _ h => h) (Or.inl ⟨by rfl, ?_⟩) hHeld ?_ ?_
            rotate_left
            · rintro w' ⟨s0, s1, s2, s3, s4, s5⟩
              go_simp
              with_reducible rfl
            rotate_left
            · simp only [Act.put, List.setIfInBounds_toArray, List.set_cons_zero, List.set_cons_succ, i64_w, i32_w]
              rfl
            refine take_ (i := 1) (N := some 36) (v := ?_) (a' := ?_) #[true, true, false, false, false] rfl rfl (by kernel_rfl) (fun _ _ _ h => h) (Or.inl ⟨by rfl, ?_⟩) hHeld ?_ ?_
            rotate_left
            · rintro w' ⟨s0, s1, s2, s3, s4, s5⟩
              go_simp
              with_reducible rfl
            rotate_left
            · simp only [Act.put, List.setIfInBounds_toArray, List.set_cons_zero, List.set_cons_succ, i64_w, i32_w]
              rfl
            refine one_ (i := 2) (N := some 37) #[true, true, true, false, false] rfl rfl (by kernel_rfl) (by decide) (fun K hK => ?_)
            refine goes_ Tryd.func13 (by kernel_rfl) rfl #[.agg #[.int .i64 a0_0, .int .i64 a0_1, .slice A0_2 l0_2.length c0_2]] (by rfl) rfl rfl (by (try simp only [List.map_toArray, List.map_cons, List.map_nil]); first | done | rfl | (simp only [List.length_drop, List.length_take]; rfl)) ?_
            with_reducible refine (laws_toEntry.calls kj10 a0_0 a0_1 _ _ l0_2 t118 t119 t120 _ ?side1 ?side2 A28.out).mono ?_
            (case side1 => repeat (first | exact (Kd.C_below HR0_2.out HB.out) | (with_reducible refine Kd.C_alloc ?_ _) | (with_reducible refine Kd.C_drewN ?_ _) | (with_reducible refine Kd.C_drew ?_)))
            (case side2 => exact HC0_2.out)
            rintro e w32 ⟨v121, rfl, ho0, hb⟩
            refine ⟨_, rfl, ?_⟩
            have n0_ := mz (Kd.R_elder' (by (with_reducible repeat (first | apply Kd.R_alloc | apply Kd.R_drewN | apply Kd.R_drew)); exact HO_116002.out) (Kd.R_base ho0) hb)
            have n1_ := mz (Kd.R_lower (Kd.R_new' ho0 (Kd.R_lt (by (with_reducible repeat (first | apply Kd.R_alloc | apply Kd.R_drewN | apply Kd.R_drew)); exact HO_116002.out))) (below_size (by repeat (first | (with_reducible first | exact HB.out | apply below_alloc | apply pw_below_drewN | apply below_drew1 | refine below_set ?_ GE101.out | refine below_set ?_ GE115.out) | exact HB.out))))
            have n2_ := mz (blk_below (g := gb101) (o := .cells #[.int .i64 a0_0, .int .i64 a0_1, .slice A0_2 l0_2.length c0_2] 31 (0, 0)) (by (with_reducible repeat (first | refine blk_drewN ?_ _ | refine blk_drew ?_ | refine blk_alloc ?_ _)); exact BK101.out) hb)
            have n3_ := mz (blk_below (g := gb115) (o := .cells #[.int .i64 t110, .int .i64 t111, .slice Ao24 t112.length co24] 35 (0, 0)) (by (with_reducible repeat (first | refine blk_drewN ?_ _ | refine blk_drew ?_ | refine blk_alloc ?_ _)); exact BK115.out) hb)
            have n4_ := mz (below_step (by repeat (first | (with_reducible first | exact HB.out | apply below_alloc | apply pw_below_drewN | apply below_drew1 | refine below_set ?_ GE101.out | refine below_set ?_ GE115.out) | exact HB.out)) hb)
            clear HO_116002
            clear BK101
            clear BK115
            clear HB
            have HO_116002 := n0_
            have HO122 := n1_
            have BK101 := n2_
            have BK115 := n3_
            have HB := n4_
            clear n0_ n1_ n2_ n3_ n4_
            (try clear hb)
            (try clear hb2)
            (try clear hk)
            (try clear hi)
            (try clear ho0)
            obtain ⟨Ao33, co33, eo33⟩ := Kd.R_slice HO122.out
            (first | subst eo33 | (injection eo33 with f1_ f2_ f3_; have f4_ := f1_.symm; have f5_ := f3_.symm; clear f1_ f2_ f3_; subst f4_; subst f5_))
            refine hK.out _ _ ⟨(blk_cell BK115.out 0).trans rfl, (blk_cell BK115.out 1).trans rfl, (blk_cell BK115.out 2).trans rfl, (blk_cell BK101.out 0).trans rfl, (blk_cell BK101.out 1).trans rfl, (blk_cell BK101.out 2).trans rfl⟩ (fun hHeld => ?_)
            clear hK K
            refine norm_ (a' := ?_) ?_ ?_
            rotate_left
            · show Act.put _ (some 37) _ = _
              simp only [Act.put, List.setIfInBounds_toArray, List.set_cons_zero, List.set_cons_succ, i64_w, i32_w]
              rfl
            refine one_ (i := 3) (N := some 38) #[true, true, true, true, false] rfl rfl (by kernel_rfl) (by decide) (fun K hK => ?_)
            refine goes_ Tryd.func15 (by kernel_rfl) rfl #[.agg #[.int .i64 t110, .int .i64 t111, .slice Ao24 t112.length co24], .agg #[.int .i64 t118, .int .i64 t119, .slice Ao33 t120.length co33]] (by rfl) rfl rfl (by (try simp only [List.map_toArray, List.map_cons, List.map_nil]); first | done | rfl | (simp only [List.length_drop, List.length_take]; rfl)) ?_
            with_reducible refine (laws_eqEntry.calls kj10 t110 t111 _ _ t112 t118 t119 _ _ t120 true _ ?side1 ?side2 ?side3 ?side4 A29.out).mono ?_
            (case side1 => repeat (first | exact (Kd.R_reads' HO_116002.out).2.2 | (with_reducible refine Kd.C_alloc ?_ _) | (with_reducible refine Kd.C_drewN ?_ _) | (with_reducible refine Kd.C_drew ?_)))
            (case side2 => exact (Kd.R_reads' HO_116002.out).2.1)
            (case side3 => repeat (first | exact (Kd.R_reads' HO122.out).2.2 | (with_reducible refine Kd.C_alloc ?_ _) | (with_reducible refine Kd.C_drewN ?_ _) | (with_reducible refine Kd.C_drew ?_)))
            (case side4 => exact (Kd.R_reads' HO122.out).2.1)
            rintro e w34 ⟨rfl, hb⟩
            refine ⟨_, rfl, ?_⟩
            have n0_ := mz (Kd.R_below (by (with_reducible repeat (first | apply Kd.R_alloc | apply Kd.R_drewN | apply Kd.R_drew)); exact HO_116002.out) hb)
            have n1_ := mz (Kd.R_below (by (with_reducible repeat (first | apply Kd.R_alloc | apply Kd.R_drewN | apply Kd.R_drew)); exact HO122.out) hb)
            have n2_ := mz (blk_below (g := gb101) (o := .cells #[.int .i64 a0_0, .int .i64 a0_1, .slice A0_2 l0_2.length c0_2] 31 (0, 0)) (by (with_reducible repeat (first | refine blk_drewN ?_ _ | refine blk_drew ?_ | refine blk_alloc ?_ _)); exact BK101.out) hb)
            have n3_ := mz (blk_below (g := gb115) (o := .cells #[.int .i64 t110, .int .i64 t111, .slice Ao24 t112.length co24] 35 (0, 0)) (by (with_reducible repeat (first | refine blk_drewN ?_ _ | refine blk_drew ?_ | refine blk_alloc ?_ _)); exact BK115.out) hb)
            have n4_ := mz (below_step (by repeat (first | (with_reducible first | exact HB.out | apply below_alloc | apply pw_below_drewN | apply below_drew1 | refine below_set ?_ GE101.out | refine below_set ?_ GE115.out) | exact HB.out)) hb)
            clear HO_116002
            clear HO122
            clear BK101
            clear BK115
            clear HB
            have HO_116002 := n0_
            have HO122 := n1_
            have BK101 := n2_
            have BK115 := n3_
            have HB := n4_
            clear n0_ n1_ n2_ n3_ n4_
            (try clear hb)
            (try clear hb2)
            (try clear hk)
            (try clear hi)
            refine hK.out _ _ ⟨(blk_cell BK115.out 0).trans rfl, (blk_cell BK115.out 1).trans rfl, (blk_cell BK115.out 2).trans rfl, (blk_cell BK101.out 0).trans rfl, (blk_cell BK101.out 1).trans rfl, (blk_cell BK101.out 2).trans rfl⟩ (fun hHeld => ?_)
            clear hK K
            refine norm_ (a' := ?_) ?_ ?_
            rotate_left
            · show Act.put _ (some 38) _ = _
              simp only [Act.put, List.setIfInBounds_toArray, List.set_cons_zero, List.set_cons_succ, i64_w, i32_w]
              rfl
            refine pure_ (i := 4) (N := some 39) (v := ?_) (a' := ?_) #[true, true, true, true, true] rfl rfl (by kernel_rfl) (fun _ _ _ h => h) (Or.inl ⟨by rfl, ?_⟩) ?_ ?_
            rotate_left
            · intro w'
              go_simp
              with_reducible rfl
            rotate_left
            · simp only [Act.put, List.setIfInBounds_toArray, List.set_cons_zero, List.set_cons_succ, i64_w, i32_w]
              rfl
            refine done_ (by kernel_rfl) ?_
            try go_wp2
            go_ret
            exact ⟨by first | rfl | (simp [errW_none, errW_some] <;> rfl) | (simp [*, errW_none, errW_some] <;> rfl), by repeat (first | (with_reducible first | exact HB.out | apply below_alloc | apply pw_below_drewN | apply below_drew1 | refine below_set ?_ GE101.out | refine below_set ?_ GE115.out) | exact HB.out)⟩
          · replace c30 := Bool.eq_false_iff.mpr c30
            subst c30
            have H1 : (some false) = some r := by rw [if_neg (show ¬ (false = true) by decide)] at H; exact H
            clear H
            have H := H1
            clear H1
            obtain rfl := Option.some.inj H
            try go_wp2
            have n0_ := mz (Kd.R_drew HO_116002.out)
            have n1_ := mz (blk_drew BK101.out)
            have n2_ := mz (blk_drew BK115.out)
            have n3_ := mz (below_drew1 HB.out)
            clear HO_116002
            clear BK101
            clear BK115
            clear HB
            have HO_116002 := n0_
            have BK101 := n1_
            have BK115 := n2_
            have HB := n3_
            clear n0_ n1_ n2_ n3_
            refine start_ (n := 5) (S := fun w' => w'.cell? ⟨gb115, 0, none⟩ = some (.int .i64 t110) ∧ w'.cell? ⟨gb115, 1, none⟩ = some (.int .i64 t111) ∧ w'.cell? ⟨gb115, 2, none⟩ = some (.slice Ao24 t112.length co24) ∧ w'.cell? ⟨gb101, 0, none⟩ = some (.int .i64 a0_0) ∧ w'.cell? ⟨gb101, 1, none⟩ = some (.int .i64 a0_1) ∧ w'.cell? ⟨gb101, 2, none⟩ = some (.slice A0_2 l0_2.length c0_2)) (ds := []) #[false, false, false, false, false] (by kernel_rfl) rfl rfl ⟨(blk_cell BK115.out 0).trans rfl, (blk_cell BK115.out 1).trans rfl, (blk_cell BK115.out 2).trans rfl, (blk_cell BK101.out 0).trans rfl, (blk_cell BK101.out 1).trans rfl, (blk_cell BK101.out 2).trans rfl⟩ (fun hHeld => ?_)
            generalize wc.drew = w35 at HO_116002 BK101 BK115 HB hHeld ⊢
            refine take_ (i := 0) (N := some 35) (v := ?_) (a' := ?_) #[true, false, false, false, false] rfl rfl (by kernel_rfl) (fun _ _ _ h => h) (Or.inl ⟨by rfl, ?_⟩) hHeld ?_ ?_
            rotate_left
            · rintro w' ⟨s0, s1, s2, s3, s4, s5⟩
              go_simp
              with_reducible rfl
            rotate_left
            · simp only [Act.put, List.setIfInBounds_toArray, List.set_cons_zero, List.set_cons_succ, i64_w, i32_w]
              rfl
            refine take_ (i := 1) (N := some 36) (v := ?_) (a' := ?_) #[true, true, false, false, false] rfl rfl (by kernel_rfl) (fun _ _ _ h => h) (Or.inl ⟨by rfl, ?_⟩) hHeld ?_ ?_
            rotate_left
            · rintro w' ⟨s0, s1, s2, s3, s4, s5⟩
              go_simp
              with_reducible rfl
            rotate_left
            · simp only [Act.put, List.setIfInBounds_toArray, List.set_cons_zero, List.set_cons_succ, i64_w, i32_w]
              rfl
            refine one_ (i := 2) (N := some 37) #[true, true, true, false, false] rfl rfl (by kernel_rfl) (by decide) (fun K hK => ?_)
            refine goes_ Tryd.func13 (by kernel_rfl) rfl #[.agg #[.int .i64 a0_0, .int .i64 a0_1, .slice A0_2 l0_2.length c0_2]] (by rfl) rfl rfl (by (try simp only [List.map_toArray, List.map_cons, List.map_nil]); first | done | rfl | (simp only [List.length_drop, List.length_take]; rfl)) ?_
            with_reducible refine (laws_toEntry.calls kj10 a0_0 a0_1 _ _ l0_2 t118 t119 t120 _ ?side1 ?side2 A28.out).mono ?_
            (case side1 => repeat (first | exact (Kd.C_below HR0_2.out HB.out) | (with_reducible refine Kd.C_alloc ?_ _) | (with_reducible refine Kd.C_drewN ?_ _) | (with_reducible refine Kd.C_drew ?_)))
            (case side2 => exact HC0_2.out)
            rintro e w36 ⟨v121, rfl, ho0, hb⟩
            refine ⟨_, rfl, ?_⟩
            have n0_ := mz (Kd.R_elder' (by (with_reducible repeat (first | apply Kd.R_alloc | apply Kd.R_drewN | apply Kd.R_drew)); exact HO_116002.out) (Kd.R_base ho0) hb)
            have n1_ := mz (Kd.R_lower (Kd.R_new' ho0 (Kd.R_lt (by (with_reducible repeat (first | apply Kd.R_alloc | apply Kd.R_drewN | apply Kd.R_drew)); exact HO_116002.out))) (below_size (by repeat (first | (with_reducible first | exact HB.out | apply below_alloc | apply pw_below_drewN | apply below_drew1 | refine below_set ?_ GE101.out | refine below_set ?_ GE115.out) | exact HB.out))))
            have n2_ := mz (blk_below (g := gb101) (o := .cells #[.int .i64 a0_0, .int .i64 a0_1, .slice A0_2 l0_2.length c0_2] 31 (0, 0)) (by (with_reducible repeat (first | refine blk_drewN ?_ _ | refine blk_drew ?_ | refine blk_alloc ?_ _)); exact BK101.out) hb)
            have n3_ := mz (blk_below (g := gb115) (o := .cells #[.int .i64 t110, .int .i64 t111, .slice Ao24 t112.length co24] 35 (0, 0)) (by (with_reducible repeat (first | refine blk_drewN ?_ _ | refine blk_drew ?_ | refine blk_alloc ?_ _)); exact BK115.out) hb)
            have n4_ := mz (below_step (by repeat (first | (with_reducible first | exact HB.out | apply below_alloc | apply pw_below_drewN | apply below_drew1 | refine below_set ?_ GE101.out | refine below_set ?_ GE115.out) | exact HB.out)) hb)
            clear HO_116002
            clear BK101
            clear BK115
            clear HB
            have HO_116002 := n0_
            have HO122 := n1_
            have BK101 := n2_
            have BK115 := n3_
            have HB := n4_
            clear n0_ n1_ n2_ n3_ n4_
            (try clear hb)
            (try clear hb2)
            (try clear hk)
            (try clear hi)
            (try clear ho0)
            obtain ⟨Ao37, co37, eo37⟩ := Kd.R_slice HO122.out
            (first | subst eo37 | (injection eo37 with f1_ f2_ f3_; have f4_ := f1_.symm; have f5_ := f3_.symm; clear f1_ f2_ f3_; subst f4_; subst f5_))
            refine hK.out _ _ ⟨(blk_cell BK115.out 0).trans rfl, (blk_cell BK115.out 1).trans rfl, (blk_cell BK115.out 2).trans rfl, (blk_cell BK101.out 0).trans rfl, (blk_cell BK101.out 1).trans rfl, (blk_cell BK101.out 2).trans rfl⟩ (fun hHeld => ?_)
            clear hK K
            refine norm_ (a' := ?_) ?_ ?_
            rotate_left
            · show Act.put _ (some 37) _ = _
              simp only [Act.put, List.setIfInBounds_toArray, List.set_cons_zero, List.set_cons_succ, i64_w, i32_w]
              rfl
            refine one_ (i := 3) (N := some 38) #[true, true, true, true, false] rfl rfl (by kernel_rfl) (by decide) (fun K hK => ?_)
            refine goes_ Tryd.func15 (by kernel_rfl) rfl #[.agg #[.int .i64 t110, .int .i64 t111, .slice Ao24 t112.length co24], .agg #[.int .i64 t118, .int .i64 t119, .slice Ao37 t120.length co37]] (by rfl) rfl rfl (by (try simp only [List.map_toArray, List.map_cons, List.map_nil]); first | done | rfl | (simp only [List.length_drop, List.length_take]; rfl)) ?_
            with_reducible refine (laws_eqEntry.calls kj10 t110 t111 _ _ t112 t118 t119 _ _ t120 false _ ?side1 ?side2 ?side3 ?side4 A29.out).mono ?_
            (case side1 => repeat (first | exact (Kd.R_reads' HO_116002.out).2.2 | (with_reducible refine Kd.C_alloc ?_ _) | (with_reducible refine Kd.C_drewN ?_ _) | (with_reducible refine Kd.C_drew ?_)))
            (case side2 => exact (Kd.R_reads' HO_116002.out).2.1)
            (case side3 => repeat (first | exact (Kd.R_reads' HO122.out).2.2 | (with_reducible refine Kd.C_alloc ?_ _) | (with_reducible refine Kd.C_drewN ?_ _) | (with_reducible refine Kd.C_drew ?_)))
            (case side4 => exact (Kd.R_reads' HO122.out).2.1)
            rintro e w38 ⟨rfl, hb⟩
            refine ⟨_, rfl, ?_⟩
            have n0_ := mz (Kd.R_below (by (with_reducible repeat (first | apply Kd.R_alloc | apply Kd.R_drewN | apply Kd.R_drew)); exact HO_116002.out) hb)
            have n1_ := mz (Kd.R_below (by (with_reducible repeat (first | apply Kd.R_alloc | apply Kd.R_drewN | apply Kd.R_drew)); exact HO122.out) hb)
            have n2_ := mz (blk_below (g := gb101) (o := .cells #[.int .i64 a0_0, .int .i64 a0_1, .slice A0_2 l0_2.length c0_2] 31 (0, 0)) (by (with_reducible repeat (first | refine blk_drewN ?_ _ | refine blk_drew ?_ | refine blk_alloc ?_ _)); exact BK101.out) hb)
            have n3_ := mz (blk_below (g := gb115) (o := .cells #[.int .i64 t110, .int .i64 t111, .slice Ao24 t112.length co24] 35 (0, 0)) (by (with_reducible repeat (first | refine blk_drewN ?_ _ | refine blk_drew ?_ | refine blk_alloc ?_ _)); exact BK115.out) hb)
            have n4_ := mz (below_step (by repeat (first | (with_reducible first | exact HB.out | apply below_alloc | apply pw_below_drewN | apply below_drew1 | refine below_set ?_ GE101.out | refine below_set ?_ GE115.out) | exact HB.out)) hb)
            clear HO_116002
            clear HO122
            clear BK101
            clear BK115
            clear HB
            have HO_116002 := n0_
            have HO122 := n1_
            have BK101 := n2_
            have BK115 := n3_
            have HB := n4_
            clear n0_ n1_ n2_ n3_ n4_
            (try clear hb)
            (try clear hb2)
            (try clear hk)
            (try clear hi)
            refine hK.out _ _ ⟨(blk_cell BK115.out 0).trans rfl, (blk_cell BK115.out 1).trans rfl, (blk_cell BK115.out 2).trans rfl, (blk_cell BK101.out 0).trans rfl, (blk_cell BK101.out 1).trans rfl, (blk_cell BK101.out 2).trans rfl⟩ (fun hHeld => ?_)
            clear hK K
            refine norm_ (a' := ?_) ?_ ?_
            rotate_left
            · show Act.put _ (some 38) _ = _
              simp only [Act.put, List.setIfInBounds_toArray, List.set_cons_zero, List.set_cons_succ, i64_w, i32_w]
              rfl
            refine pure_ (i := 4) (N := some 39) (v := ?_) (a' := ?_) #[true, true, true, true, true] rfl rfl (by kernel_rfl) (fun _ _ _ h => h) (Or.inl ⟨by rfl, ?_⟩) ?_ ?_
            rotate_left
            · intro w'
              go_simp
              with_reducible rfl
            rotate_left
            · simp only [Act.put, List.setIfInBounds_toArray, List.set_cons_zero, List.set_cons_succ, i64_w, i32_w]
              rfl
            refine done_ (by kernel_rfl) ?_
            try go_wp2
            go_ret
            exact ⟨by first | rfl | (simp [errW_none, errW_some] <;> rfl) | (simp [*, errW_none, errW_some] <;> rfl), by repeat (first | (with_reducible first | exact HB.out | apply below_alloc | apply pw_below_drewN | apply below_drew1 | refine below_set ?_ GE101.out | refine below_set ?_ GE115.out) | exact HB.out)⟩
end
def Opens {α : Type} (P : Program) (t : TypeId) (d : Kd α) (B : α → Prop) : Prop :=
  ∀ (H : Type) (enc : TypeId × Value → H) (W : World) (fuel : Nat) (cs : List Value) (x : DataW H × List MemPlace),
    DataW.trod enc P W 0 (fun _ => true) true fuel t cs = some x → ∃ y : α, d.K W y cs ∧ B y

theorem opens_int {P : Program} {t : TypeId} {k : IntKind} (ht : P.underlying t = some (.int k)) : Opens P t (Kd.int k) (fun n => (Lit.int k n).wf = true) := by
  intro H enc W fuel cs x h
  obtain ⟨n, rfl, _, hw⟩ := DataW.trod_int ht h
  exact ⟨n, rfl, hw⟩
theorem opens_string {P : Program} {t : TypeId} (ht : P.underlying t = some .string) : Opens P t Kd.string (fun s => s.size ≤ maxLen) := by
  intro H enc W fuel cs x h
  obtain ⟨s, rfl, _, hs⟩ := DataW.trod_string ht h
  exact ⟨s, rfl, hs⟩

theorem list_of {α : Type} (Q : Nat → α → Prop) (n : Nat) (h : ∀ i, i < n → ∃ y, Q i y) : ∃ ys : List α, ys.length = n ∧ ∀ i y, ys[i]? = some y → Q i y := by
  induction n with
  | zero => exact ⟨[], rfl, fun i y hy => by simp at hy⟩
  | succ n ih =>
    obtain ⟨ys, hl, hq⟩ := ih (fun i hi => h i (by omega))
    obtain ⟨y, hy⟩ := h n (by omega)
    refine ⟨ys ++ [y], by simp [hl], fun i z hz => ?_⟩
    rcases Nat.lt_or_ge i ys.length with hi | hi
    · rw [List.getElem?_append_left hi] at hz
      exact hq i z hz
    · have hi' : i = n := by
        have := (List.getElem?_eq_some_iff.1 hz).1
        simp at this
        omega
      subst hi'
      rw [List.getElem?_append_right hi, hl, Nat.sub_self] at hz
      have : y = z := by simpa using hz
      subst this
      exact hy

theorem opens_slice {α : Type} {P : Program} {t e : TypeId} {d : Kd α} {B : α → Prop} (ht : P.underlying t = some (.slice e)) (hc : P.cellsOf e = d.sz) (hd : Opens P e d B) :
    Opens P t (Kd.slice e d) (fun l => l.length ≤ maxLen ∧ ∀ x ∈ l, B x) := by
  intro H enc W fuel cs x h
  rcases DataW.trod_slice ht h with ⟨rfl, _⟩ | ⟨a, len, cap, elems, rest, n, _, rfl, _, _, hl, hm, hlen, hel, _, _⟩
  · exact ⟨[], ⟨none, 0, rfl, Nat.le_refl _, rfl, by simp, fun h0 => absurd h0 (by simp)⟩, by simp, by simp⟩
  · have each : ∀ i, i < len → ∃ y : α, (∃ c, W.cells? 0 (a.add (i * P.cellsOf e)) (P.cellsOf e) = some c ∧ d.K W y c) ∧ B y := by
      intro i hi
      have h1 := hel i hi
      rw [List.getElem?_eq_getElem (by omega), Option.bind_eq_some_iff] at h1
      obtain ⟨c, h2, h3⟩ := h1
      obtain ⟨y, h4, h5⟩ := hd H enc W n c _ h3
      exact ⟨y, ⟨c, h2, h4⟩, h5⟩
    obtain ⟨ys, hys, hq⟩ := list_of _ len each
    refine ⟨ys, ⟨some a, cap, by rw [hys], by rw [hys]; exact hl, rfl, ?_, fun _ => ⟨a, rfl, fun j p hj => ?_⟩⟩, by rw [hys]; exact Nat.le_trans hl hm, fun z hz => ?_⟩
    · rw [hys]
      have := Nat.le_trans hl hm
      simp only [maxLen] at this
      exact this
    · obtain ⟨⟨c, h2, h3⟩, _⟩ := hq j p hj
      refine ⟨c, d.K_len h3, h3, fun i u hu => ?_⟩
      have hi : i < P.cellsOf e := by rw [hc, ← d.K_len h3]; exact (List.getElem?_eq_some_iff.1 hu).1
      have := (World.cells?_some h2).2.2 i hi
      rw [Addr.add_add, hc] at this
      rw [this, hu]
    · obtain ⟨j, hj, rfl⟩ := List.getElem_of_mem hz
      exact (hq j _ (List.getElem?_eq_getElem hj)).2

theorem split_at (cs : List Value) (a n b : Nat) (h : b = a + n) : cs.drop a = (cs.drop a).take n ++ cs.drop b := by
  subst h
  rw [← List.drop_drop, List.take_append_drop]
section
attribute [local go_sem] max2_int min2_int max_two min_two max_three min_three max_four min_four
def B52 (x : S52) : Prop := (Lit.int .i64 x.f0).wf = true ∧ x.f1.size ≤ maxLen ∧ x.f2.size ≤ maxLen
set_option maxRecDepth 10000 in
theorem opens_S52 : Opens Tryd.prog 52 k52 B52 := by
  intro H enc W fuel cs x h
  obtain ⟨xs, n, rfl, rfl, hl, hx, hf⟩ := DataW.trod_struct Tryd.underlying52 h
  have hl' : cs.length = 3 := hl.trans (by kernel_rfl)
  have hx' : xs.length = 3 := hx
  have h0 := hf 0 _ rfl
  rw [List.getElem?_eq_getElem (show 0 < xs.length by omega)] at h0
  obtain ⟨v0, K0, B0_⟩ := (opens_int Tryd.underlying3) H enc W n _ _ h0
  replace K0 : (Kd.int .i64).K W v0 ((cs.drop 0).take 1) := K0
  have h1 := hf 1 _ rfl
  rw [List.getElem?_eq_getElem (show 1 < xs.length by omega)] at h1
  obtain ⟨v1, K1, B1_⟩ := (opens_string Tryd.underlying9) H enc W n _ _ h1
  replace K1 : Kd.string.K W v1 ((cs.drop 1).take 1) := K1
  have h2 := hf 2 _ rfl
  rw [List.getElem?_eq_getElem (show 2 < xs.length by omega)] at h2
  obtain ⟨v2, K2, B2_⟩ := (opens_string Tryd.underlying9) H enc W n _ _ h2
  replace K2 : Kd.string.K W v2 ((cs.drop 2).take 1) := K2
  rw [List.take_of_length_le (by rw [List.length_drop, hl']; decide)] at K2
  have hK : k52.K W ⟨v0, v1, v2⟩ (cs.drop 0) := ⟨_, _, split_at cs 0 1 1 rfl, K0, ⟨_, _, split_at cs 1 1 2 rfl, K1, K2⟩⟩
  rw [List.drop_zero] at hK
  exact ⟨_, hK, ⟨B0_, B1_, B2_⟩⟩
def B31 (x : S31) : Prop := (Lit.int .i64 x.f0).wf = true ∧ (Lit.int .i64 x.f1).wf = true ∧ (x.f2.length ≤ maxLen ∧ ∀ y ∈ x.f2, B52 y)
set_option maxRecDepth 10000 in
theorem opens_S31 : Opens Tryd.prog 31 k31 B31 := by
  intro H enc W fuel cs x h
  obtain ⟨xs, n, rfl, rfl, hl, hx, hf⟩ := DataW.trod_struct Tryd.underlying31 h
  have hl' : cs.length = 3 := hl.trans (by kernel_rfl)
  have hx' : xs.length = 3 := hx
  have h0 := hf 0 _ rfl
  rw [List.getElem?_eq_getElem (show 0 < xs.length by omega)] at h0
  obtain ⟨v0, K0, B0_⟩ := (opens_int Tryd.underlying3) H enc W n _ _ h0
  replace K0 : (Kd.int .i64).K W v0 ((cs.drop 0).take 1) := K0
  have h1 := hf 1 _ rfl
  rw [List.getElem?_eq_getElem (show 1 < xs.length by omega)] at h1
  obtain ⟨v1, K1, B1_⟩ := (opens_int Tryd.underlying3) H enc W n _ _ h1
  replace K1 : (Kd.int .i64).K W v1 ((cs.drop 1).take 1) := K1
  have h2 := hf 2 _ rfl
  rw [List.getElem?_eq_getElem (show 2 < xs.length by omega)] at h2
  obtain ⟨v2, K2, B2_⟩ := (opens_slice Tryd.underlying22 (by kernel_rfl) opens_S52) H enc W n _ _ h2
  replace K2 : (Kd.slice 52 k52).K W v2 ((cs.drop 2).take 1) := K2
  rw [List.take_of_length_le (by rw [List.length_drop, hl']; decide)] at K2
  have hK : k31.K W ⟨v0, v1, v2⟩ (cs.drop 0) := ⟨_, _, split_at cs 0 1 1 rfl, K0, ⟨_, _, split_at cs 1 1 2 rfl, K1, K2⟩⟩
  rw [List.drop_zero] at hK
  exact ⟨_, hK, ⟨B0_, B1_, B2_⟩⟩
end
section
attribute [local go_sem] max2_int min2_int max_two min_two max_three min_three max_four min_four
def PureFnExactEntryLine : Prop := ∀ (x0 : S31), B31 x0 → ∃ k, laws_FnExactEntryLine.f k x0.f0 x0.f1 x0.f2 = some true
end
abbrev LPart := S52
def partOf (p : LPart) : Part := ⟨p.f0, p.f1, p.f2⟩
def opOf (l : List LPart) : List Part := l.map partOf
def szP (p : LPart) (left : Int) : Int := if left - (p.f1.size : Int) < 0 then -1 else if left - (p.f1.size : Int) - (p.f2.size : Int) < 0 then -1 else left - (p.f1.size : Int) - (p.f2.size : Int)
theorem szPart_val (p : LPart) (left : Int) (h0 : 0 ≤ left) (h1 : left ≤ 1048576) (h2 : p.f1.size ≤ maxLen) (h3 : p.f2.size ≤ maxLen) : laws_szPart.f p.f0 p.f1 p.f2 left = some (szP p left) := by
  unfold laws_szPart.f szP
  simp only [maxLen] at h2 h3
  rw [w64 (n := left - (p.f1.size : Int)) (by omega) (by omega)]
  by_cases a : left - (p.f1.size : Int) < 0
  · simp only [if_pos a]
  · simp only [if_neg a]
    rw [w64 (n := left - (p.f1.size : Int) - (p.f2.size : Int)) (by omega) (by omega)]
    by_cases b : left - (p.f1.size : Int) - (p.f2.size : Int) < 0
    · simp only [if_pos b]
    · simp only [if_neg b]
def smallP (l : List LPart) : Prop := ∀ p ∈ l, p.f1.size ≤ 1048576 ∧ p.f2.size ≤ 1048576
theorem rd_lpart (l : List LPart) (i : Nat) (h : i < l.length) : rd_T52 l (i : Int) = l[i] := by
  simp [rd_T52, List.getD_eq_getElem?_getD, h]
theorem szPartS_loop (a : List LPart) (hm : a.length ≤ maxLen) (hB : ∀ p ∈ a, p.f1.size ≤ maxLen ∧ p.f2.size ≤ maxLen) (d : Nat) : ∀ (i : Nat) (left : Int), i + d = a.length → 0 ≤ left → left ≤ 1048576 →
    ∃ r, Ev (fun k => laws_szPartS.l0 k a left (i : Int)) r ∧ r ≤ left ∧ (0 ≤ r → smallP (a.drop i)) := by
  induction d with
  | zero =>
    intro i left h h0 h1
    refine ⟨left, ?_, by omega, fun _ p hp => ?_⟩
    · refine Ev.succ ?_
      simp only [laws_szPartS.l0, if_neg (show ¬ ((i : Int) < (a.length : Int)) by omega)]
      exact Ev.now _
    · rw [List.drop_eq_nil_of_le (by omega)] at hp; simp at hp
  | succ d ih =>
    intro i left h h0 h1
    have hi : i < a.length := by omega
    have hb := hB a[i] (List.getElem_mem hi)
    have e : a.drop i = a[i] :: a.drop (i + 1) := List.drop_eq_getElem_cons hi
    have hv := szPart_val a[i] left h0 h1 hb.1 hb.2
    have hz : szP a[i] left < 0 ∨ (0 ≤ szP a[i] left ∧ szP a[i] left ≤ left ∧ a[i].f1.size ≤ 1048576 ∧ a[i].f2.size ≤ 1048576) := by
      unfold szP; repeat' split
      all_goals omega
    simp only [maxLen] at hm
    have hs : ∀ k, laws_szPartS.l0 (k + 1) a left (i : Int) = if szP a[i] left < 0 then some (-1) else laws_szPartS.l0 k a (szP a[i] left) ((i + 1 : Nat) : Int) := by
      intro k
      simp only [laws_szPartS.l0, if_pos (show ((i : Int) < (a.length : Int)) by omega), if_pos (show (0 : Int) ≤ i by omega), rd_lpart a i hi, hv, Option.bind_some, w64 (show -9223372036854775808 ≤ (i : Int) + 1 by omega) (by omega)]
      rfl
    rcases hz with hz | ⟨z0, z1, z2, z3⟩
    · refine ⟨-1, Ev.succ ?_, by omega, fun h => by omega⟩
      simp only [hs, if_pos hz]
      exact Ev.now _
    · obtain ⟨r, hr, hle, hg⟩ := ih (i + 1) (szP a[i] left) (by omega) z0 (by omega)
      refine ⟨r, Ev.succ ?_, by omega, fun h => ?_⟩
      · simp only [hs, if_neg (show ¬ szP a[i] left < 0 by omega)]
        exact hr
      · intro p hp
        rw [e] at hp
        rcases List.mem_cons.1 hp with rfl | hp
        · exact ⟨z2, z3⟩
        · exact hg h p hp
theorem szPartS_ev (a : List LPart) (hm : a.length ≤ maxLen) (hB : ∀ p ∈ a, p.f1.size ≤ maxLen ∧ p.f2.size ≤ maxLen) (left : Int) (h0 : 0 ≤ left) (h1 : left ≤ 1048576) :
    ∃ r, Ev (fun k => laws_szPartS.f k a left) r ∧ r ≤ left ∧ (0 ≤ r → a.length ≤ 1048576 ∧ smallP a) := by
  unfold laws_szPartS.f
  have hm' := hm
  simp only [maxLen] at hm'
  rw [w64 (n := left - (a.length : Int)) (by omega) (by omega)]
  by_cases b : left - (a.length : Int) < 0
  · simp only [if_pos b]
    exact ⟨-1, Ev.now _, by omega, fun h => by omega⟩
  · simp only [if_neg b]
    obtain ⟨r, hr, hle, hg⟩ := szPartS_loop a hm hB a.length 0 (left - (a.length : Int)) (by omega) (by omega) (by omega)
    exact ⟨r, hr, by omega, fun h => ⟨by omega, by simpa using hg h⟩⟩

theorem toPartS_loop (a : List LPart) (hm : a.length ≤ 1048576) (d : Nat) : ∀ (i : Nat) (b : List Part), i + d = a.length → b.length = a.length → b.take i = opOf (a.take i) →
    Ev (fun k => laws_toPartS.l0 k a b (i : Int)) (opOf a) := by
  induction d with
  | zero =>
    intro i b h hb ht
    refine Ev.succ ?_
    simp only [laws_toPartS.l0, if_neg (show ¬ ((i : Int) < (a.length : Int)) by omega)]
    refine ev_eq (Ev.now b) ?_
    rwa [List.take_of_length_le (by omega), List.take_of_length_le (by omega)] at ht
  | succ d ih =>
    intro i b h hb ht
    have hi : i < a.length := by omega
    refine Ev.succ ?_
    simp only [laws_toPartS.l0, if_pos (show ((i : Int) < (a.length : Int)) by omega), if_pos (show (0 : Int) ≤ i by omega), rd_lpart a i hi, laws_toPart.f, Option.bind_some, if_pos (show ((i : Int) < (b.length : Int)) by omega), w64 (show -9223372036854775808 ≤ (i : Int) + 1 by omega) (by omega), Int.toNat_natCast]
    refine ih (i + 1) _ (by omega) (by simp [hb]) ?_
    rw [List.take_succ_eq_append_getElem (by simp; omega), List.take_succ_eq_append_getElem hi, List.take_set_of_le (by omega), ht]
    simp only [opOf, List.map_append, List.map_cons, List.map_nil, List.getElem_set_self]
    rfl
theorem toPartS_ev (a : List LPart) (hm : a.length ≤ 1048576) : Ev (fun k => laws_toPartS.f k a) (opOf a) := by
  unfold laws_toPartS.f
  simp only [if_pos (show (0 : Int) ≤ (a.length : Int) by omega), Int.toNat_natCast, if_pos (show a.length ≤ 7036874417766 by omega)]
  exact toPartS_loop a hm a.length 0 _ (by omega) (by simp) (by simp [opOf])
theorem opOf_length (a : List LPart) : (opOf a).length = a.length := by simp [opOf]

theorem eqPartS_loop (a : List Part) (hm : a.length ≤ maxLen) (d : Nat) : ∀ i : Nat, i + d = a.length → Ev (fun k => laws_eqPartS.l0 k a a (i : Int)) true := by
  simp only [maxLen] at hm
  induction d with
  | zero =>
    intro i h
    refine Ev.succ ?_
    simp only [laws_eqPartS.l0, if_neg (show ¬ ((i : Int) < (a.length : Int)) by omega)]
    exact Ev.now _
  | succ d ih =>
    intro i h
    have hi : i < a.length := by omega
    refine Ev.succ ?_
    simp only [laws_eqPartS.l0, if_pos (show ((i : Int) < (a.length : Int)) by omega), if_pos (show (0 : Int) ≤ i by omega), rd_part a i hi, laws_eqPart.f, if_true, Option.bind_some, w64 (show -9223372036854775808 ≤ (i : Int) + 1 by omega) (by omega)]
    exact ih (i + 1) (by omega)
theorem eqPartS_ev (a : List Part) (hm : a.length ≤ maxLen) : Ev (fun k => laws_eqPartS.f k a a) true := by
  unfold laws_eqPartS.f
  simp only [if_true]
  exact eqPartS_loop a hm a.length 0 (by omega)
section
attribute [local go_sem] max2_int min2_int max_two min_two max_three min_three max_four min_four

end
section
attribute [local go_sem] max2_int min2_int max_two min_two max_three min_three max_four min_four

end
def ofL (l : List UInt8) : ByteArray := ⟨l.toArray⟩
theorem ofL_append (a b : List UInt8) : ofL a ++ ofL b = ofL (a ++ b) := by
  apply ByteArray.ext; rw [ByteArray.data_append]; simp [ofL]
theorem ofL_size (a : List UInt8) : (ofL a).size = a.length := by simp [ofL, ByteArray.size]
theorem ofL_data (s : ByteArray) : ofL s.data.toList = s := by apply ByteArray.ext; simp [ofL]
theorem ev_guard {α : Type} {c : Prop} [Decidable c] {g : Nat → Option α} {r : α} (h : c) (hg : Ev g r) : Ev (fun k => if c then g k else none) r := by
  simpa only [if_pos h] using hg
theorem digit_one (n : Nat) (h : n < 10) : strOfNums [(wrap64 (48 + (n : Int))) % 256] = ofL [UInt8.ofNat (48 + n)] := by
  have e : wrap64 (48 + (n : Int)) = ((48 + n : Nat) : Int) := by unfold wrap64; omega
  rw [e]
  have : ((48 + n : Nat) : Int) % 256 = ((48 + n : Nat) : Int) := by omega
  rw [this]
  unfold strOfNums ofL
  simp only [List.map_cons, List.map_nil, Int.toNat_natCast]
theorem l1Num_ev (m : Nat) : ∀ n : Nat, n < m → n ≤ 1000000000000 → Ev (fun k => spec_l1Num.f k (n : Int)) (ofL (Lib.decDigits n)) ∧ (Lib.decDigits n).length ≤ n + 1 := by
  induction m with
  | zero => intro n h; omega
  | succ m ih =>
    intro n hn hb
    by_cases c : n < 10
    · rw [Lib.decDigits_one c]
      refine ⟨Ev.succ ?_, by simp⟩
      simp only [spec_l1Num.f, if_pos (show (n : Int) < 10 by omega), digit_one n c]
      exact Ev.now _
    · obtain ⟨h1, h2⟩ := ih (n / 10) (by omega) (by omega)
      rw [Lib.decDigits, dif_neg c]
      refine ⟨Ev.succ ?_, by rw [List.length_append]; simp; omega⟩
      have e1 : wrap64 (Int.tdiv (n : Int) 10) = ((n / 10 : Nat) : Int) := by rw [Int.tdiv_eq_ediv_of_nonneg (by omega)]; unfold wrap64; omega
      have e2 : Int.tmod (n : Int) 10 = ((n % 10 : Nat) : Int) := by rw [Int.tmod_eq_emod_of_nonneg (by omega)]; omega
      simp only [spec_l1Num.f, if_neg (show ¬ (n : Int) < 10 by omega), e1, e2]
      refine Ev.bind h1 ?_
      simp only [Option.bind_some, digit_one (n % 10) (by omega), ofL_append]
      rw [if_pos (by rw [ofL_size, ofL_size]; simp; omega)]
      exact Ev.now _
theorem l1Num_of (n : Int) (h0 : 0 ≤ n) (h1 : n ≤ 1000000000000) : Ev (fun k => spec_l1Num.f k n) (ofL (Lib.itoa n)) := by
  obtain ⟨m, rfl⟩ := Int.eq_ofNat_of_zero_le h0
  rw [Lib.itoa_nonneg]
  exact (l1Num_ev (m + 1) m (by omega) (by omega)).1
theorem itoa_val (n : Int) (h0 : 0 ≤ n) (h1 : n ≤ 1000000000000) : strconv_Itoa_49.f n = some (ofL (Lib.itoa n)) := if_pos ⟨by omega, by omega⟩

theorem l18Op_loop (l : List Part) (hl : l.length ≤ 60) (hp : ∀ p ∈ l, partB p = true) (d : Nat) : ∀ i : Nat, i + d = l.length → Ev (fun k => spec_l18Op.l0 k (ofL (opT (l.take i))) l (l.length : Int) (i : Int)) (ofL (opT l)) := by
  induction d with
  | zero =>
    intro i h
    refine Ev.succ ?_
    simp only [spec_l18Op.l0, if_neg (show ¬ ((i : Int) < (l.length : Int)) by omega)]
    rw [List.take_of_length_le (by omega)]
    exact Ev.now _
  | succ d ih =>
    intro i h
    have hi : i < l.length := by omega
    have hrd : rd_T55 l (i : Int) = l[i] := rd_part l i hi
    have hb := hp _ (List.getElem_mem hi)
    have hlen := opT_take l i hp hl (by omega)
    have hlen2 := opT_take l (i + 1) hp hl (by omega)
    have hpl := partT_len hb
    obtain ⟨q0, q1, q2, q3, _⟩ := partB_cases hb
    have e0 : opT (l.take (i + 1)) = opT (l.take i) ++ partT l[i] := by
      have e0 : l.take (i + 1) = l.take i ++ [l[i]] := by rw [List.take_add_one, List.getElem?_eq_getElem hi]; rfl
      rw [e0]
      unfold opT
      rw [List.flatMap_append, List.flatMap_cons, List.flatMap_nil, List.append_nil]
    have hn := ih (i + 1) (by omega)
    rw [e0] at hn
    refine Ev.succ ?_
    simp only [spec_l18Op.l0, if_pos (show ((i : Int) < (l.length : Int)) by omega), if_pos (show (0 : Int) ≤ i by omega), hrd, w64 (show -9223372036854775808 ≤ (i : Int) + 1 by omega) (by omega)]
    have hpre : (ofL (opT (l.take i))).size ≤ 18120 := by rw [ofL_size]; exact hlen
    have key : ∀ (c : UInt8) (s : ByteArray) (dd : List UInt8), s = ofL dd → s.size ≤ 301 → partT l[i] = (c :: dd) ++ [59] →
        Ev (fun k => if 1 + s.size ≤ 9223372036854775807 then (if (ofL (opT (l.take i))).size + ((⟨#[c]⟩ : ByteArray) ++ s).size ≤ 9223372036854775807 then (if (ofL (opT (l.take i)) ++ ((⟨#[c]⟩ : ByteArray) ++ s)).size + 1 ≤ 9223372036854775807 then spec_l18Op.l0 k ((ofL (opT (l.take i)) ++ ((⟨#[c]⟩ : ByteArray) ++ s)) ++ (⟨#[59]⟩ : ByteArray)) l (l.length : Int) ((i : Int) + 1) else none) else none) else none) (ofL (opT l)) := by
      intro c s dd hs hz hp
      have e1 : (⟨#[c]⟩ : ByteArray) = ofL [c] := rfl
      have e2 : (⟨#[59]⟩ : ByteArray) = ofL [59] := rfl
      have z1 : ((⟨#[c]⟩ : ByteArray) ++ s).size = 1 + s.size := by rw [ByteArray.size_append]; rfl
      have z2 : (ofL (opT (l.take i)) ++ ((⟨#[c]⟩ : ByteArray) ++ s)).size = (ofL (opT (l.take i))).size + (1 + s.size) := by rw [ByteArray.size_append, z1]
      refine ev_guard (by omega) (ev_guard (by omega) (ev_guard (by omega) ?_))
      rw [hs, e1, e2, ofL_append, ofL_append, ofL_append]
      rw [hp] at hn
      simpa [List.append_assoc] using hn
    by_cases d0 : 0 < l[i].f0
    · have ep : partT l[i] = (61 :: Lib.itoa l[i].f0) ++ [59] := if_pos d0
      have hpl2 := hpl
      rw [ep, List.length_append] at hpl2
      simp only [List.length_cons, List.length_nil] at hpl2
      simp only [if_pos (show l[i].f0 > 0 from d0)]
      refine Ev.bind (l1Num_of _ q0 (by omega)) ?_
      exact key 61 _ _ rfl (by rw [ofL_size]; omega) ep
    · simp only [if_neg (show ¬ l[i].f0 > 0 from d0)]
      by_cases d1 : l[i].f1.toList = ([] : List UInt8)
      · simp only [if_pos d1]
        exact key 45 _ l[i].f2.toList (by rw [ByteArray.toList_eq, ofL_data]) (by omega) (by rw [partT, if_neg d0, if_pos d1])
      · simp only [if_neg d1]
        exact key 43 _ l[i].f1.toList (by rw [ByteArray.toList_eq, ofL_data]) (by omega) (by rw [partT, if_neg d0, if_neg d1])
theorem l18Op_ev (l : List Part) (h : okT l = true) : Ev (fun k => spec_l18Op.f k l) (ofL (opT l)) := by
  have := l18Op_loop l (okT_of h).1 (okT_of h).2 l.length 0 (by omega)
  unfold spec_l18Op.f
  exact this
section
attribute [local go_sem] max2_int min2_int max_two min_two max_three min_three max_four min_four

end
section
attribute [local go_sem] max2_int min2_int max_two min_two max_three min_three max_four min_four

end
section
attribute [local go_sem] max2_int min2_int max_two min_two max_three min_three max_four min_four

end
abbrev Entry := S35
def entryB (e : Entry) : Bool := decide (0 ≤ e.f0) && decide (e.f0 ≤ 9) && decide (1 ≤ e.f1) && decide (e.f1 ≤ 1000) && opB e.f2
theorem entryB_of {e : Entry} (h : entryB e = true) : 0 ≤ e.f0 ∧ e.f0 ≤ 9 ∧ 1 ≤ e.f1 ∧ e.f1 ≤ 1000 ∧ opB e.f2 = true := by
  simp only [entryB, Bool.and_eq_true, decide_eq_true_eq] at h
  exact ⟨h.1.1.1.1, h.1.1.1.2, h.1.1.2, h.1.2, h.2⟩
theorem isEntry_ev (e : Entry) (hs : sizedP e.f2 = true) : Ev (fun k => impl_isEntry.f k e.f0 e.f1 e.f2) (entryB e) := by
  unfold impl_isEntry.f entryB
  by_cases a : 0 ≤ e.f0
  · simp only [if_pos (show e.f0 ≥ 0 from a), decide_eq_true a]
    by_cases b : e.f0 ≤ 9
    · simp only [if_pos b, decide_eq_true b]
      by_cases c : 1 ≤ e.f1
      · simp only [if_pos (show e.f1 ≥ 1 from c), decide_eq_true c]
        by_cases d : e.f1 ≤ 1000
        · simp only [if_pos d, decide_eq_true d, Bool.true_and, Bool.and_self]
          exact Ev.bind (implGoodOp_ev e.f2 hs) (Ev.now _)
        · simp only [if_neg d, decide_eq_false d, Bool.and_false, Bool.false_and]; exact Ev.now _
      · simp only [if_neg (show ¬ e.f1 ≥ 1 from c), decide_eq_false c, Bool.and_false, Bool.false_and]; exact Ev.now _
    · simp only [if_neg b, decide_eq_false b, Bool.and_false, Bool.false_and]; exact Ev.now _
  · simp only [if_neg (show ¬ e.f0 ≥ 0 from a), decide_eq_false a, Bool.false_and]; exact Ev.now _
theorem l1In_val (n lo hi : Int) : spec_l1In.f n lo hi = some (decide (lo ≤ n) && decide (n ≤ hi)) := by
  unfold spec_l1In.f
  by_cases a : lo ≤ n
  · simp only [if_pos (show n ≥ lo from a), decide_eq_true a, Bool.true_and]
  · simp only [if_neg (show ¬ n ≥ lo from a), decide_eq_false a, Bool.false_and]
theorem specEntry_ev (e : Entry) (hs : sizedP e.f2 = true) : Ev (fun k => spec_l15Entry.f k e.f0 e.f1 e.f2) (entryB e) := by
  unfold spec_l15Entry.f entryB
  simp only [l1In_val, Option.bind_some]
  cases a : (decide (0 ≤ e.f0) && decide (e.f0 ≤ 9)) with
  | false => simp only [Bool.false_eq_true, if_false, Bool.false_and]; exact Ev.now _
  | true =>
    simp only [if_true, Bool.true_and]
    cases b : (decide (1 ≤ e.f1) && decide (e.f1 ≤ 1000)) with
    | false => simp only [Bool.false_eq_true, if_false, Bool.false_and]; exact Ev.now _
    | true =>
      simp only [if_true, Bool.true_and]
      exact Ev.bind (specGoodOp_ev e.f2 hs) (Ev.now _)
theorem sum_or (a b : Int) (ha : 0 ≤ a) (ha1 : a < 65521) (hb : 0 ≤ b) (hb1 : b < 65521) :
    Go.bits .or .i64 (wrap64 (b * 65536)) a = wrap64 ((wrap64 (b * 65536)) + a) := by
  have e : wrap64 (b * 65536) = b * 65536 := by unfold wrap64; omega
  have e2 : wrap64 (b * 65536 + a) = b * 65536 + a := by unfold wrap64; omega
  rw [e, e2]
  exact bits_join .i64 63 (by decide) (fun n h0 h1 => by rw [IntKind.wrap_i64]; omega) 16 _ _ (by omega) (by omega) (by omega) ha (by omega) (by omega)
theorem sum_loops (s : ByteArray) (hs : s.size ≤ 140737488351232) (d : Nat) : ∀ (i a b : Int), 0 ≤ i → i ≤ s.size → (s.size : Int) - i = d →
    0 ≤ a → a < 65521 → 0 ≤ b → b < 65521 → ∃ r, Ev (fun k => spec_l18Sum.l0 k s a b i) r ∧ Ev (fun k => impl_SumOf.l0 k s a b (s.size : Int) i) r ∧ 0 ≤ r ∧ r ≤ 4294967296 := by
  induction d with
  | zero =>
    intro i a b h0 h1 hd ha ha1 hb hb1
    have e1 : wrap64 ((wrap64 (b * 65536)) + a) = b * 65536 + a := by unfold wrap64; omega
    refine ⟨wrap64 ((wrap64 (b * 65536)) + a), Ev.succ ?_, Ev.succ ?_, by rw [e1]; omega, by rw [e1]; omega⟩
    · simp only [spec_l18Sum.l0, if_neg (show ¬ i < (s.size : Int) by omega), sum_or a b ha ha1 hb hb1]
      exact Ev.now _
    · simp only [impl_SumOf.l0, if_neg (show ¬ i < (s.size : Int) by omega)]
      exact Ev.now _
  | succ d ih =>
    intro i a b h0 h1 hd ha ha1 hb hb1
    have hr := bt_range s i
    have ea : wrap64 (bt s i) = bt s i := by unfold wrap64; omega
    have eb : wrap64 (a + bt s i) = a + bt s i := by unfold wrap64; omega
    have ei : wrap64 (i + 1) = i + 1 := by unfold wrap64; omega
    have em : Int.tmod (a + bt s i) 65521 = (a + bt s i) % 65521 := Int.tmod_eq_emod_of_nonneg (by omega)
    have en : wrap64 (b + (a + bt s i) % 65521) = b + (a + bt s i) % 65521 := by unfold wrap64; omega
    have eo : Int.tmod (b + (a + bt s i) % 65521) 65521 = (b + (a + bt s i) % 65521) % 65521 := Int.tmod_eq_emod_of_nonneg (by omega)
    obtain ⟨r, h2, h3, h4, h5⟩ := ih (i + 1) ((a + bt s i) % 65521) ((b + (a + bt s i) % 65521) % 65521) (by omega) (by omega) (by omega) (by omega) (by omega) (by omega) (by omega)
    refine ⟨r, Ev.succ ?_, Ev.succ ?_, h4, h5⟩
    · simp only [spec_l18Sum.l0, if_pos (show i < (s.size : Int) by omega), if_pos h0, ea, eb, ei, em, en, eo]; exact h2
    · simp only [impl_SumOf.l0, if_pos (show i < (s.size : Int) by omega), if_pos h0, ea, eb, ei, em, en, eo]; exact h3
theorem sum_some (s : ByteArray) (hs : s.size ≤ 140737488351232) : ∃ r, Ev (fun k => spec_l18Sum.f k s) r ∧ Ev (fun k => impl_SumOf.f k s) r ∧ 0 ≤ r ∧ r ≤ 4294967296 := by
  unfold spec_l18Sum.f impl_SumOf.f
  exact sum_loops s hs s.size 0 1 0 (by omega) (by omega) (by omega) (by omega) (by omega) (by omega) (by omega)
noncomputable def sumV (s : ByteArray) : Int := if h : s.size ≤ 140737488351232 then Classical.choose (sum_some s h) else 0
theorem sumV_of (s : ByteArray) (h : s.size ≤ 140737488351232) : Ev (fun k => spec_l18Sum.f k s) (sumV s) ∧ Ev (fun k => impl_SumOf.f k s) (sumV s) ∧ 0 ≤ sumV s ∧ sumV s ≤ 4294967296 := by
  unfold sumV
  rw [dif_pos h]
  exact Classical.choose_spec (sum_some s h)
noncomputable def lineV (s : ByteArray) : ByteArray := ((s ++ (⟨#[32]⟩ : ByteArray)) ++ ofL (Lib.itoa (sumV s))) ++ (⟨#[10]⟩ : ByteArray)
theorem one_size (c : UInt8) : (⟨#[c]⟩ : ByteArray).size = 1 := rfl
theorem itoa_size (n : Int) (h0 : 0 ≤ n) (h1 : n ≤ 9223372036854775807) : (ofL (Lib.itoa n)).size ≤ 21 := by rw [ofL_size]; exact itoa_small n h0 h1
theorem implSummed_ev (s : ByteArray) (h : s.size ≤ 1000000) : Ev (fun k => impl_summed.f k s) (lineV s) := by
  obtain ⟨_, hi, h0, h1⟩ := sumV_of s (by omega)
  have hz := itoa_size (sumV s) h0 (by omega)
  unfold impl_summed.f lineV
  refine ev_guard (by omega) ?_
  refine Ev.bind hi ?_
  simp only [itoa_val (sumV s) h0 (by omega), Option.bind_some]
  refine ev_guard (by rw [ByteArray.size_append, one_size]; omega) (ev_guard (by rw [ByteArray.size_append, ByteArray.size_append, one_size]; omega) ?_)
  exact Ev.now _
theorem specLine_ev (s : ByteArray) (h : s.size ≤ 1000000) : Ev (fun k => spec_l18Line.f k s) (lineV s) := by
  obtain ⟨hi, _, h0, h1⟩ := sumV_of s (by omega)
  have hz := itoa_size (sumV s) h0 (by omega)
  unfold spec_l18Line.f lineV
  refine ev_guard (by omega) ?_
  refine Ev.bind hi ?_
  refine Ev.bind (l1Num_of (sumV s) h0 (by omega)) ?_
  refine ev_guard (by rw [ByteArray.size_append, one_size]; omega) (ev_guard (by rw [ByteArray.size_append, ByteArray.size_append, one_size]; omega) ?_)
  exact Ev.now _
def bodyV (e : Entry) : ByteArray := (((ofL (Lib.itoa e.f0) ++ (⟨#[32]⟩ : ByteArray)) ++ ofL (Lib.itoa e.f1)) ++ (⟨#[32]⟩ : ByteArray)) ++ ofL (opT e.f2)
noncomputable def entryV (e : Entry) : ByteArray := lineV (bodyV e)
theorem opT_size {l : List Part} (h : opB l = true) : (ofL (opT l)).size ≤ 18120 := by
  rw [ofL_size]
  have := opT_take l l.length (okT_of (okT_op h)).2 (okT_of (okT_op h)).1 (Nat.le_refl _)
  rwa [List.take_length] at this
theorem bodyV_size {e : Entry} (h : entryB e = true) : (bodyV e).size ≤ 20000 := by
  obtain ⟨h0, h1, h2, h3, h4⟩ := entryB_of h
  have z0 := itoa_size e.f0 h0 (by omega)
  have z1 := itoa_size e.f1 (by omega) (by omega)
  have z2 := opT_size h4
  simp only [bodyV, ByteArray.size_append, one_size]
  omega
theorem implEntryLine_ev (e : Entry) (h : entryB e = true) : Ev (fun k => impl_entryLine.f k e.f0 e.f1 e.f2) (entryV e) := by
  obtain ⟨h0, h1, h2, h3, h4⟩ := entryB_of h
  have z0 := itoa_size e.f0 h0 (by omega)
  have z1 := itoa_size e.f1 (by omega) (by omega)
  have z2 := opT_size h4
  have z3 := bodyV_size h
  unfold impl_entryLine.f
  simp only [itoa_val e.f0 h0 (by omega), itoa_val e.f1 (by omega) (by omega), Option.bind_some, impl_opText.f, if_pos (okT_op h4)]
  refine ev_guard (by omega) (ev_guard (by rw [ByteArray.size_append, one_size]; omega) (ev_guard (by rw [ByteArray.size_append, ByteArray.size_append, one_size]; omega) (ev_guard ?_ ?_)))
  · show (((ofL (Lib.itoa e.f0) ++ (⟨#[32]⟩ : ByteArray)) ++ ofL (Lib.itoa e.f1)) ++ (⟨#[32]⟩ : ByteArray)).size + (ofL (opT e.f2)).size ≤ 9223372036854775807
    simp only [ByteArray.size_append, one_size]
    omega
  · refine Ev.bind (implSummed_ev (bodyV e) (by omega)) ?_
    exact Ev.now _
theorem specEntryLine_ev (e : Entry) (h : entryB e = true) : Ev (fun k => spec_l18Entry.f k e.f0 e.f1 e.f2) (entryV e) := by
  obtain ⟨h0, h1, h2, h3, h4⟩ := entryB_of h
  have z0 := itoa_size e.f0 h0 (by omega)
  have z1 := itoa_size e.f1 (by omega) (by omega)
  have z2 := opT_size h4
  have z3 := bodyV_size h
  unfold spec_l18Entry.f
  refine Ev.bind (l1Num_of e.f0 h0 (by omega)) ?_
  refine ev_guard (by omega) ?_
  refine Ev.bind (l1Num_of e.f1 (by omega) (by omega)) ?_
  refine ev_guard (by rw [ByteArray.size_append, one_size]; omega) (ev_guard (by rw [ByteArray.size_append, ByteArray.size_append, one_size]; omega) ?_)
  refine Ev.bind (l18Op_ev e.f2 (okT_op h4)) ?_
  refine ev_guard ?_ ?_
  · simp only [ByteArray.size_append, one_size]
    omega
  · refine Ev.bind (specLine_ev (bodyV e) (by omega)) ?_
    exact Ev.now _
section
attribute [local go_sem] max2_int min2_int max_two min_two max_three min_three max_four min_four

end
section
attribute [local go_sem] max2_int min2_int max_two min_two max_three min_three max_four min_four

end
section
attribute [local go_sem] max2_int min2_int max_two min_two max_three min_three max_four min_four

end
section
attribute [local go_sem] max2_int min2_int max_two min_two max_three min_three max_four min_four

end
section
attribute [local go_sem] max2_int min2_int max_two min_two max_three min_three max_four min_four
def laws_eqEntryS.T6 : Bool × List (List Nat × List Nat) := (true, [([], []), ([], []), ([0, 1], [0, 1]), ([2], [2]), ([], []), ([], []), ([4, 5], [4, 5]), ([6], [6]), ([3, 7], [3, 7]), ([8], [8])])
def laws_eqEntryS.B6 : List Nat := [0, 0, 3, 7, 0, 0, 48, 112, 255, 511]
theorem laws_eqEntryS.tab6 : rtab .any (opsOf Tryd.f41 6) = laws_eqEntryS.T6 := by kernel_rfl
theorem laws_eqEntryS.bits6 : waitsOk laws_eqEntryS.T6.2 laws_eqEntryS.B6 = true := by kernel_rfl
end
section
attribute [local go_sem] max2_int min2_int max_two min_two max_three min_three max_four min_four

end
abbrev LEntry := S31
def entryOf (e : LEntry) : Entry := ⟨e.f0, e.f1, opOf e.f2⟩
theorem szEntry_ev (e : LEntry) (hm : e.f2.length ≤ maxLen) (hB : ∀ p ∈ e.f2, p.f1.size ≤ maxLen ∧ p.f2.size ≤ maxLen) (left : Int) (h0 : 0 ≤ left) (h1 : left ≤ 1048576) :
    ∃ r, Ev (fun k => laws_szEntry.f k e.f0 e.f1 e.f2 left) r ∧ r ≤ left ∧ (0 ≤ r → e.f2.length ≤ 1048576 ∧ smallP e.f2) := by
  obtain ⟨r, hr, h2, h3⟩ := szPartS_ev e.f2 hm hB left h0 h1
  unfold laws_szEntry.f
  by_cases a : r < 0
  · refine ⟨-1, Ev.bind hr ?_, by omega, fun h => by omega⟩
    simp only [if_pos a]; exact Ev.now _
  · refine ⟨r, Ev.bind hr ?_, h2, h3⟩
    simp only [if_neg a]; exact Ev.now _
theorem toEntry_ev (e : LEntry) (h : e.f2.length ≤ 1048576) : Ev (fun k => laws_toEntry.f k e.f0 e.f1 e.f2) (e.f0, e.f1, opOf e.f2) := by
  unfold laws_toEntry.f
  exact Ev.bind (toPartS_ev e.f2 h) (Ev.now _)
theorem eqEntry_ev (e : Entry) (h : e.f2.length ≤ maxLen) : Ev (fun k => laws_eqEntry.f k e.f0 e.f1 e.f2 e.f0 e.f1 e.f2) true := by
  unfold laws_eqEntry.f
  simp only [if_true]
  refine Ev.bind (eqPartS_ev e.f2 h) ?_
  simp only [if_true]
  exact Ev.now _
noncomputable def lineOf (e : Entry) : ByteArray × Bool := if entryB e = true then (entryV e, true) else (⟨#[]⟩, false)
theorem specLineOf_ev (e : Entry) (hs : sizedP e.f2 = true) : Ev (fun k => spec_EntryLine.f k e.f0 e.f1 e.f2) (lineOf e) := by
  unfold spec_EntryLine.f lineOf
  refine Ev.bind (specEntry_ev e hs) ?_
  cases h : entryB e with
  | true =>
    simp only [if_true]
    refine Ev.bind (specEntryLine_ev e h) ?_
    exact Ev.now _
  | false =>
    simp only [Bool.false_eq_true, if_false]
    exact Ev.now _
theorem implLineOf_ev (e : Entry) (hs : sizedP e.f2 = true) : Ev (fun k => impl_EntryLine.f k e.f0 e.f1 e.f2) (lineOf e) := by
  unfold impl_EntryLine.f lineOf
  refine Ev.bind (isEntry_ev e hs) ?_
  cases h : entryB e with
  | true =>
    simp only [if_true]
    refine Ev.bind (implEntryLine_ev e h) ?_
    exact Ev.now _
  | false =>
    simp only [Bool.false_eq_true, if_false]
    exact Ev.now _
end Go.Proofs.YtcpedpidooeanaaDoor.X
namespace Go.Proofs.YtcpedpidooeanaaDoor.Pure
open Go.RowKit Go.Proofs.YtcpedpidooeanaaDoor.X Go.Proofs.YtcpedpidooeanaaDoorW.PrintWords Go.Proofs.YtcpedpidooeanaaDoorW.PrintLast
theorem FnExactEntryLine : PureFnExactEntryLine := by
  intro x hB
  refine Ev.rounds ?_
  unfold laws_FnExactEntryLine.f
  obtain ⟨_, _, hB2⟩ := hB
  obtain ⟨r, hr, _, hg⟩ := szEntry_ev x hB2.1 (fun p hp => (hB2.2 p hp).2) 1048576 (by omega) (by omega)
  refine Ev.bind hr ?_
  by_cases h : r < 0
  · simp only [if_pos h]; exact Ev.now _
  · simp only [if_neg h]
    obtain ⟨g1, g2⟩ := hg (by omega)
    have ht := toEntry_ev x g1
    have hs : sizedP (entryOf x).f2 = true := sizedP_mk (by
      intro p hp
      obtain ⟨q, hq, rfl⟩ := List.mem_map.1 (show p ∈ opOf x.f2 from hp)
      have := g2 q hq
      simp only [maxLen, partOf]
      omega)
    refine Ev.bind ht ?_
    refine Ev.bind (specLineOf_ev (entryOf x) hs) ?_
    refine Ev.bind ht ?_
    refine Ev.bind (implLineOf_ev (entryOf x) hs) ?_
    simp only [if_true, bne_self_eq_false]
    refine Ev.succ ?_
    simp only [laws_FnExactEntryLine.j0, Bool.false_eq_true, if_false]
    refine Ev.bind ht ?_
    refine Ev.bind (eqEntry_ev (entryOf x) (by show (opOf x.f2).length ≤ maxLen; rw [opOf_length]; simp only [maxLen]; omega)) ?_
    simp only [if_true]
    exact Ev.now _
end Go.Proofs.YtcpedpidooeanaaDoor.Pure
namespace Go.Proofs.YtcpedpidooeanaaDoor.fnExactEntryLine
open Go.ChangeShapes Go.WideShapes Go.ChangeAt Go.RowKit
open Go.ChangeMaps (open_string shut_string)
open Go.Proofs.YtcpedpidooeanaaDoorW.PrintWords Go.Proofs.YtcpedpidooeanaaDoor.X
set_option linter.unusedVariables false
theorem own : ownKnob Tryd.prog.godebug = none := by kernel_rfl
theorem laidOut : laidOutB Tryd.prog = true := by kernel_rfl
def lst : List (String × DataW Unit) := Rows.fnExactEntryLineRow.laid
theorem door_met (os : Os) (args : Array Value) : laidMetH Tryd.prog lst ((World.doorLaid Tryd.prog 24 os).forCall (fun _ _ => 0) ⟨#[], args, []⟩).memory :=
  laidMetH_of_parts3 (fuel := 8) (laidMet_of_run' 8 (by kernel_rfl) (by kernel_rfl)) (by kernel_rfl) (by kernel_rfl)
theorem tab_of {W : World} (h : laidMetH Tryd.prog lst W) : X.Tab W := by
  have h2 := h.filter (fun x => x.1 == "internal/strconv.uint64pow10")
  have e : List.filter (fun x => x.1 == "internal/strconv.uint64pow10") lst = [("internal/strconv.uint64pow10", Lib.tabData .u64 Lib.pow10Tab)] := by kernel_rfl
  rw [e, MakeChecks.laidMetH_plain _ _ _ (by kernel_rfl)] at h2
  exact Lib.tabIs_of_head (g := 0) (t := 108) (e := 101) (n := 20) (by kernel_rfl) (by kernel_rfl) Tryd.underlying108 Tryd.underlying101 (by kernel_rfl) (by kernel_rfl) h2
set_option maxRecDepth 100000 in
theorem lifted (os : Os) (started : os.Started) (H : Type) (enc : TypeId × Value → H) :
    ReturnsInHanded {} Tryd.checked os 4 .any (fun w args => (Rows.fnExactEntryLineSpec.pre enc Tryd.prog Tryd.f4 [] false w args ∧ laidMetH Tryd.prog lst w) ∧ sizedMet enc Tryd.prog Tryd.f4 (OpenSpec.ofChange Rows.fnExactEntryLineSpec) false w args) (Rows.fnExactEntryLineSpec.post enc Tryd.prog Tryd.f4 false true false false) := by
  refine returnsInHanded_of_change_and (C := Tryd.checked) (X := fun w _ => laidMetH Tryd.prog lst w) (fun _ _ _ hh h => h.of_heap hh) own started (by kernel_rfl) Tryd.func4
    (ChangeSpec.witness_shaped (enc := enc) (C := Tryd.checked) (os := os) (X := fun w _ => laidMetH Tryd.prog lst w) false (World.doorLaid Tryd.prog 24 os) #[.agg #[.int .i64 0, .int .i64 0, .slice none 0 0]] 8 rfl (World.shaped_of_RefB (by kernel_rfl) (by kernel_rfl)) (by kernel_rfl) (by kernel_rfl) (by kernel_rfl) (door_met os _)) ?_
  intro W base args ds gs before hval0 hW hcnd hsz0 hL0 _
  have htab := tab_of hL0
  have hval : ∀ (j : Nat) t v, Tryd.f4.params[j]? = some t → args[j]? = some v → Value.okWide Tryd.prog W .any base t v := hval0
  have hW' := hW
  obtain ⟨p, q, hA0, hV, rfl, hfz, hnd⟩ := hW
  have hA : DataW.TrodAll enc Tryd.prog W 0 (fun _ => true) true Tryd.f4.params.toList args.toList ds p := hA0
  rw [Tryd.params4] at hA hval
  obtain ⟨v0, vs0, d0, ds0, p0, q0, hargs, rfl, rfl, h0, r0⟩ := trodAll_cons hA
  obtain ⟨rfl, rfl, rfl⟩ := trodAll_nil r0
  obtain rfl : args = #[v0] := by cases args; simp_all
  obtain ⟨rfl, rfl⟩ := trodVars_none hV
  have k0 := h0
  have lt0 : ∀ x ∈ p0, x.block < W.heap.size := by obtain ⟨m, hm⟩ := k0; exact DataW.trod_lt m _ _ _ hm
  obtain ⟨fuel0, hf0⟩ := h0
  obtain ⟨cs0, rfl, _⟩ := okWide_struct Tryd.underlying31 (hval 0 31 v0 rfl rfl)
  obtain ⟨x0, K0, b0⟩ := opens_S31 H enc W _ _ _ hf0
  obtain ⟨A0_2, c0_2, he0, hc0_2, hr0_2⟩ := k31_open K0
  obtain rfl : cs0 = #[.int .i64 x0.f0, .int .i64 x0.f1, .slice A0_2 x0.f2.length c0_2] := by cases cs0; simp_all [Value.cells]
  clear hA0 hval0 hsz0
  have hP : PureFnExactEntryLine := Pure.FnExactEntryLine
  obtain ⟨k, hk⟩ := hP x0 b0
  refine (laws_FnExactEntryLine.calls k x0.f0 x0.f1 _ _ x0.f2 true W hr0_2 hc0_2 hk htab).mono fun e W' ⟨he, bel0⟩ => ?_
  have bel : Below W.heap.size W W' := bel0
  subst he
  exact ⟨_, rfl, _, _, _, [], _, [], hW', trodAll_mk1 (shut_bool Tryd.underlying4 _), (trodAll_cons_mk (Below.trod laidOut (by kernel_rfl) (of_decide_eq_true (by kernel_rfl)) k0 bel lt0) trodAll_mk0), rfl, bel.frame _, fun h => by cases h⟩
theorem over : Rows.fnExactEntryLineRow.holds Tryd.pinned (OpenSpec.ofChange Rows.fnExactEntryLineSpec) :=
  OpenClaim.holds_of_wide 4 Tryd.f4 rfl rfl rfl rfl rfl rfl rfl ⟨rfl, rfl, rfl, rfl, rfl⟩ rfl rfl rfl rfl rfl (by kernel_rfl) Tryd.func4 (by kernel_rfl)
    (of_decide_eq_true (by kernel_rfl)) (by unfold Func.isWrapper; first | (rw [if_pos (by decide +kernel)]; kernel_rfl) | (rw [if_neg (by decide +kernel)]; exact ⟨rfl, rfl⟩))
    (fun os started H enc _ => lifted os started H enc)
theorem card : Rows.FnExactEntryLineCardSaid :=
  Claim7.holds_tied_plain_at .later [] [.data, .data, .data] true (true, "a1af855ea3855bd8ff945386d7918b699e5d772c3a0e84ae41aed24a0902f5b9") false
    over (fun _ h => by cases h) (by kernel_rfl) (fun _ h => by cases h) fnExactEntryLine_row_tie rfl ⟨rfl, rfl⟩ (by kernel_rfl) rfl
    (fun f fn hf hfn => by
      obtain rfl : f = 4 := Option.some.inj ((show Tryd.prog.funcNamed "loop.example/g00253/laws.FnExactEntryLine" = some 4 by kernel_rfl).symm.trans hf) |>.symm
      obtain rfl : fn = Tryd.f4 := (Option.some.inj (Tryd.func4.symm.trans hfn)).symm
      exact ⟨by kernel_rfl, fun j t ht => by
        rw [Tryd.params4] at ht
        have hm : t ∈ [31] := by simpa using Array.mem_of_getElem? ht
        have hall : ([31].all fun u => !Tryd.prog.wantsStandIn u) = true := by kernel_rfl
        exact (show Tryd.prog.wantsStandIn t = false by simpa using List.all_eq_true.1 hall t hm)⟩)
    (by kernel_rfl)
#print axioms card
end Go.Proofs.YtcpedpidooeanaaDoor.fnExactEntryLine
namespace Go.Proofs.YtcpedpidooeanaaDoor
theorem fnExactEntryLine_holds : Rows.FnExactEntryLineCardSaid := fnExactEntryLine.card
end Go.Proofs.YtcpedpidooeanaaDoor
