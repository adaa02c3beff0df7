/- The law FnExactAgreesWith of the program: its proof, part 4. -/
import Derived.Test.YtoldjejfninhkaaMFnExactAgreesWith2
import Derived.Test.YtoldjejfninhkaaMFnExactAgreesWith3
import Derived.Shelf.Abstract
import Derived.Deep.RegionHeld3
import Derived.Deep.DrawnRows
import Derived.Deep.RegionWith
set_option linter.unusedVariables false
set_option linter.unusedSimpArgs false
namespace Go.Proofs.Ytoldjejfninhkaa.X
open Go.RowKit Go.Proofs.YtoldjejfninhkaaW.PrintWords Go.Proofs.YtoldjejfninhkaaW.PrintLast Go.Proofs.YtoldjejfninhkaaW.PrintMore
section
attribute [local go_sem] max2_int min2_int max_two min_two max_three min_three max_four min_four
def spec_l15Texts.l0 : Nat → List ByteArray → ByteArray → List (S67) → Int → Int → Option (List ByteArray × Bool)
  | 0, _, _, _, _, _ => none
  | k + 1, x4, x5, x16, x17, x18 => if x18 < x17 then (if 0 ≤ x18 then (if x18 < (x16.length : Int) then ((spec_l3Apply.f k ((rd_T67 x16 x18).f2) x5).bind fun bt107 => (if bt107.2 = true then ((spec_GoodText.f k bt107.1).bind fun t109 => (if t109 = true then (if x4.length < 8796093022208 then (spec_l15Texts.l0 k (x4 ++ [bt107.1]) bt107.1 x16 x17 (wrap64 (x18 + 1))) else (none)) else (some (([] : List ByteArray), false)))) else (some (([] : List ByteArray), false)))) else (none)) else (none)) else (some (x4, true))
def spec_l15Texts.f (k : Nat) (a0_0 : ByteArray) (a0_1 : ByteArray) (l0_2 : List (S67)) : Option (List ByteArray × Bool) := spec_l15Texts.l0 k (([a0_0] : List ByteArray)) a0_0 l0_2 (l0_2.length : Int) 0
set_option maxHeartbeats 8000000 in
set_option maxRecDepth 100000 in
theorem spec_l15Texts.calls (k : Nat) (a0_0 : ByteArray) (a0_1 : ByteArray) (A0_2 : Option Addr) (c0_2 : Nat) (l0_2 : List (S67)) (r1 : List ByteArray) (r2 : Bool) (w : World) (hr0_2 : Kd.C k67 w A0_2 l0_2.length l0_2) (hc0_2 : l0_2.length ≤ c0_2) (h : spec_l15Texts.f k a0_0 a0_1 l0_2 = some (r1, r2)) :
    Calls Try.prog 29 #[.agg #[.string a0_0, .string a0_1, .slice A0_2 l0_2.length c0_2]] w fun e w' => ∃ v0_ : Value, e = .returned (.tuple #[v0_, .bool r2]) ∧ Kd.R Kd.string 9 w' w.heap.size (fun _ => True) v0_ r1 ∧ Below w.heap.size w w' := by
  have hu24 := Try.underlying24
  have hu67 := Try.underlying67
  have HR0_2 := mz hr0_2
  have HC0_2 := mz hc0_2
  clear hr0_2 hc0_2
  have HB := mz (Below.refl w.heap.size w)
  have H : (spec_l15Texts.l0 k (([a0_0] : List ByteArray)) a0_0 l0_2 (l0_2.length : Int) 0) = some (r1, r2) := h
  clear h
  obtain ⟨y102, hy102⟩ : ∃ y_ : List ByteArray, y_ = (([a0_0] : List ByteArray)) := ⟨_, rfl⟩
  replace H : (spec_l15Texts.l0 k y102 a0_0 l0_2 (l0_2.length : Int) 0) = some (r1, r2) := by first | (rw [hy102]; with_reducible exact H) | (have H2_ := (Option.bind_some _ _).symm.trans H; rw [hy102]; with_reducible exact H2_) | (have H2_ := (Option.bind_some _ _).symm.trans H; with_reducible exact H2_) | with_reducible exact H | (rw [hy102]; exact H) | exact H
  have Ny102 := mz hy102
  clear hy102
  have H' := mz H
  clear H
  go_enter Try.func29, Try.ntmps29
  go_wp2_with (first | ((with_reducible refine gate_dst (N := 1) rfl ?_); refine box_event ?hg (N := 1) ?hd (cs := #[.string a0_0, .string a0_1, .slice A0_2 l0_2.length c0_2]) (t := 24) ?hr ?_; (case hd => rfl); (case hg => rfl); (case hr => first | (go_simp; done) | (go_simp; rfl)); intro gb101 hg w2 hbox hb; have n0_ := mz (below_step (by repeat (first | (with_reducible first | exact HB.out | apply below_alloc | apply pw_below_drewN | apply below_drew1) | exact HB.out)) hb); have n1_ := mz (hbox); have n2_ := mz ((by rw [hg]; exact (below_size (by repeat (first | (with_reducible first | exact HB.out | apply below_alloc | apply pw_below_drewN | apply below_drew1) | exact HB.out))) : w.heap.size ≤ gb101)); have n3_ := mz ((by rw [hg]; exact (below_size (by repeat (first | (with_reducible first | exact HB.out | apply below_alloc | apply pw_below_drewN | apply below_drew1) | exact HB.out))) : w.heap.size ≤ gb101)); clear HB; have HB := n0_; have BK101 := n1_; have GW101 := n2_; have GE101 := n3_; clear n0_ n1_ n2_ n3_; clear hb hbox hg; have hcz3_0 : w2.cell? ⟨gb101, 0, none⟩ = some (.string a0_0) := (blk_cell BK101.out 0).trans rfl; have hcz3_1 : w2.cell? ⟨gb101, 1, none⟩ = some (.string a0_1) := (blk_cell BK101.out 1).trans rfl; have hcz3_2 : w2.cell? ⟨gb101, 2, none⟩ = some (.slice A0_2 l0_2.length c0_2) := (blk_cell BK101.out 2).trans rfl; have hfz3_0 := blk_frozen BK101.out 0; have hfz3_1 := blk_frozen BK101.out 1; have hfz3_2 := blk_frozen BK101.out 2) | ((with_reducible refine gate_dst (N := 12) rfl ?_); refine Kd.R_lit Kd.string _ 9 ?hg (N := 12) ?hd (xs := ([a0_0] : List ByteArray)) (inner := [.string a0_0]) (ok := fun _ => True) (okp := fun _ => True) ?hr ?hp (fun _ hk => hk) trivial (Below.refl _ _) (Nat.le_refl _) (by simp) ?_; (case hd => rfl); (case hg => rfl); (case hr => first | (go_simp; done) | (go_simp; rfl)); (case hp => exact (Reps.one (show Kd.M Kd.string _ _ _ a0_0 [.string a0_0] from rfl) (Reps.none _ _))); intro v103 w4 ho5 hb hg_ hnew_; clear hg_ hnew_; (first | rw [← Ny102.out] at ho5 | (simp only [Int.reduceToNat] at ho5; rw [← Ny102.out] at ho5)); have n0_ := mz (Kd.R_lower ho5 (below_size (by repeat (first | (with_reducible first | exact HB.out | apply below_alloc | apply pw_below_drewN | apply below_drew1 | refine below_set ?_ GE101.out) | exact HB.out)))); have n1_ := mz (blk_below (g := gb101) (o := .cells #[.string a0_0, .string a0_1, .slice A0_2 l0_2.length c0_2] 24 (0, 0)) (by (with_reducible repeat (first | refine blk_drewN ?_ _ | refine blk_drew ?_ | refine blk_alloc ?_ _)); exact BK101.out) hb); have n2_ := mz (below_step (by repeat (first | (with_reducible first | exact HB.out | apply below_alloc | apply pw_below_drewN | apply below_drew1 | refine below_set ?_ GE101.out) | exact HB.out)) hb); clear BK101; clear HB; have HO104 := n0_; have BK101 := n1_; have HB := n2_; clear n0_ n1_ n2_; clear hb ho5; have hcz6_0 : w4.cell? ⟨gb101, 0, none⟩ = some (.string a0_0) := (blk_cell BK101.out 0).trans rfl; have hcz6_1 : w4.cell? ⟨gb101, 1, none⟩ = some (.string a0_1) := (blk_cell BK101.out 1).trans rfl; have hcz6_2 : w4.cell? ⟨gb101, 2, none⟩ = some (.slice A0_2 l0_2.length c0_2) := (blk_cell BK101.out 2).trans rfl; have hfz6_0 := blk_frozen BK101.out 0; have hfz6_1 := blk_frozen BK101.out 1; have hfz6_2 := blk_frozen BK101.out 2))
  go_loopg [4, 5, 18] k (fun kq v4 v5 v18 w' => ∃ (x4_1 : List ByteArray) (x5_1 : ByteArray) (x18_1 : Int), v5 = .string x5_1 ∧ v18 = .int .i64 x18_1 ∧ Aside0 (spec_l15Texts.l0 kq x4_1 x5_1 l0_2 (l0_2.length : Int) x18_1 = some (r1, r2)) ∧ Aside0 (kq ≤ k) ∧ Aside0 (Kd.R Kd.string 9 w' w.heap.size (fun _ => True) v4 x4_1) ∧ Aside0 (w'.heap[gb101]? = some (.cells #[.string a0_0, .string a0_1, (.slice A0_2 l0_2.length c0_2)] 24 (0, 0))) ∧ Aside0 (Below w.heap.size w w'))
  case atStart => exact ⟨(y102), (a0_0), (0), (by first | rfl | (simp; done) | (simp [*]; done)), (by first | rfl | (simp; done) | (simp [*]; done)), H', ⟨Nat.le_refl _⟩, ⟨by (with_reducible repeat (first | apply Kd.R_alloc | apply Kd.R_drewN | apply Kd.R_drew)); exact HO104.out⟩, ⟨by (with_reducible repeat (first | refine blk_drewN ?_ _ | refine blk_drew ?_ | refine blk_alloc ?_ _)); exact BK101.out⟩, ⟨by repeat (first | (with_reducible first | exact HB.out | apply below_alloc | apply pw_below_drewN | apply below_drew1 | refine below_set ?_ GE101.out) | exact HB.out)⟩⟩
  case round =>
    clear H'
    try clear c2
    try clear p2
    try clear hcz3_0
    try clear hcz3_1
    try clear hcz3_2
    try clear hcz6_0
    try clear hcz6_1
    try clear hcz6_2
    try clear hfz3_0
    try clear hfz3_1
    try clear hfz3_2
    try clear hfz6_0
    try clear hfz6_1
    try clear hfz6_2
    obtain ⟨x4_1, x5_1, x18_1, rfl, rfl, HA, HK1, HO_4, BK101, HB⟩ := hrel
    cases gk with
    | zero => exact absurd HA.out (by simp [spec_l15Texts.l0])
    | succ k1 =>
      have H := HA.out
      clear HA
      simp only [spec_l15Texts.l0] at H
      by_cases c7 : x18_1 < (l0_2.length : Int)
      · rw [if_pos c7] at H
        have c7b0 : decide (x18_1 < (l0_2.length : Int)) = true := decide_eq_true c7
        clear c7
        by_cases c8 : 0 ≤ x18_1
        · rw [if_pos c8] at H
          have c8b0 : decide (0 ≤ x18_1) = true := decide_eq_true c8
          clear c8
          by_cases c9 : x18_1 < (l0_2.length : Int)
          · rw [if_pos c9] at H
            have c9b0 : decide (x18_1 < (l0_2.length : Int)) = true := decide_eq_true c9
            clear c9
            replace H := be0_ H
            obtain ⟨⟨t107, t108⟩, A100, H⟩ := H
            replace H : (if t108 = true then ((spec_GoodText.f k1 t107).bind fun t109 => (if t109 = true then (if x4_1.length < 8796093022208 then (spec_l15Texts.l0 k1 (x4_1 ++ [t107]) t107 l0_2 (l0_2.length : Int) (wrap64 (x18_1 + 1))) else (none)) else (some (([] : List ByteArray), false)))) else (some (([] : List ByteArray), false))) = some (r1, r2) := H
            have A10 := mz A100
            clear A100
            by_cases c11 : t108 = true
            · subst c11
              have H1 : ((spec_GoodText.f k1 t107).bind fun t109 => (if t109 = true then (if x4_1.length < 8796093022208 then (spec_l15Texts.l0 k1 (x4_1 ++ [t107]) t107 l0_2 (l0_2.length : Int) (wrap64 (x18_1 + 1))) else (none)) else (some (([] : List ByteArray), false)))) = some (r1, r2) := by rw [if_pos rfl] at H; exact H
              clear H
              have H := H1
              clear H1
              replace H := be0_ H
              obtain ⟨t109, A120, H⟩ := H
              replace H : (if t109 = true then (if x4_1.length < 8796093022208 then (spec_l15Texts.l0 k1 (x4_1 ++ [t107]) t107 l0_2 (l0_2.length : Int) (wrap64 (x18_1 + 1))) else (none)) else (some (([] : List ByteArray), false))) = some (r1, r2) := H
              have A12 := mz A120
              clear A120
              by_cases c13 : t109 = true
              · subst c13
                have H1 : (if x4_1.length < 8796093022208 then (spec_l15Texts.l0 k1 (x4_1 ++ [t107]) t107 l0_2 (l0_2.length : Int) (wrap64 (x18_1 + 1))) else (none)) = some (r1, r2) := by rw [if_pos rfl] at H; exact H
                clear H
                have H := H1
                clear H1
                by_cases c14 : x4_1.length < 8796093022208
                · rw [if_pos c14] at H
                  have LMc14 := mz c14
                  clear c14
                  obtain ⟨y110, hy110⟩ : ∃ y_ : List ByteArray, y_ = (x4_1 ++ [t107]) := ⟨_, rfl⟩
                  replace H : (spec_l15Texts.l0 k1 y110 t107 l0_2 (l0_2.length : Int) (wrap64 (x18_1 + 1))) = some (r1, r2) := by first | (rw [hy110]; with_reducible exact H) | (have H2_ := (Option.bind_some _ _).symm.trans H; rw [hy110]; with_reducible exact H2_) | (have H2_ := (Option.bind_some _ _).symm.trans H; with_reducible exact H2_) | with_reducible exact H | (rw [hy110]; exact H) | exact H
                  have Ny110 := mz hy110
                  clear hy110
                  have H' := mz H
                  clear H
                  have p105 : 0 ≤ (x18_1 : Int) := of_decide_eq_true (by first | (with_reducible assumption) | assumption)
                  have q105 : x18_1 < (l0_2.length : Int) := of_decide_eq_true (by first | (with_reducible assumption) | assumption)
                  obtain ⟨ad105, A105_2, c105_2, e105, hx105_0, hx105_1, hx105_2, hl105_2, hi105_2⟩ := at_T67 HR0_2.out x18_1 p105 q105
                  cases e105
                  replace hx105_0 := bc_ HB.out hx105_0
                  replace hx105_1 := bc_ HB.out hx105_1
                  replace hx105_2 := bc_ HB.out hx105_2
                  have HR105_2 := mz hi105_2
                  have HC105_2 := mz hl105_2
                  clear hi105_2 hl105_2
                  replace p105 := eq_true p105
                  replace q105 := eq_true q105
                  go_wp2_with (first | ((with_reducible refine gate_dst (N := 7) rfl ?_); refine box_event ?hg (N := 7) ?hd (cs := #[.int .i64 0, .int .i64 0, .slice none 0 0]) (t := 67) ?hr ?_; (case hd => rfl); (case hg => rfl); (case hr => first | (go_simp; done) | (go_simp; rfl)); intro gb106 hg w15 hbox hb; have n0_ := mz (Kd.R_below (by (with_reducible repeat (first | apply Kd.R_alloc | apply Kd.R_drewN | apply Kd.R_drew)); exact HO_4.out) hb); have n1_ := mz (blk_below (g := gb101) (o := .cells #[.string a0_0, .string a0_1, .slice (some ad105) l0_2.length c0_2] 24 (0, 0)) (by (with_reducible repeat (first | refine blk_drewN ?_ _ | refine blk_drew ?_ | refine blk_alloc ?_ _)); exact BK101.out) hb); have n2_ := mz (below_step (by repeat (first | (with_reducible first | exact HB.out | apply below_alloc | apply pw_below_drewN | apply below_drew1 | refine below_set ?_ GE101.out) | exact HB.out)) hb); have n3_ := mz (hbox); have n4_ := mz ((by rw [hg]; exact (below_size (by repeat (first | (with_reducible first | exact HB.out | apply below_alloc | apply pw_below_drewN | apply below_drew1 | refine below_set ?_ GE101.out) | exact HB.out))) : w.heap.size ≤ gb106)); have n5_ := mz ((by rw [hg]; exact (below_size (by repeat (first | (with_reducible first | exact HB.out | apply below_alloc | apply pw_below_drewN | apply below_drew1 | refine below_set ?_ GE101.out) | exact HB.out))) : w.heap.size ≤ gb106)); have n6_ := mz ((by rw [hg]; exact Nat.ne_of_lt (blk_lt (g := gb101) (o := .cells #[.string a0_0, .string a0_1, .slice (some ad105) l0_2.length c0_2] 24 (0, 0)) (by (with_reducible repeat (first | refine blk_drewN ?_ _ | refine blk_drew ?_ | refine blk_alloc ?_ _)); exact BK101.out)) : gb101 ≠ gb106)); have n7_ := mz ((by rw [hg]; exact Nat.ne_of_gt (blk_lt (g := gb101) (o := .cells #[.string a0_0, .string a0_1, .slice (some ad105) l0_2.length c0_2] 24 (0, 0)) (by (with_reducible repeat (first | refine blk_drewN ?_ _ | refine blk_drew ?_ | refine blk_alloc ?_ _)); exact BK101.out)) : gb106 ≠ gb101)); clear HO_4; clear BK101; clear HB; have HO_4 := n0_; have BK101 := n1_; have HB := n2_; have BK106 := n3_; have GW106 := n4_; have GE106 := n5_; have NB101_106 := n6_; have NB106_101 := n7_; clear n0_ n1_ n2_ n3_ n4_ n5_ n6_ n7_; clear hb hbox hg; have hnb16 := NB106_101.out; have hnc16 := NB101_106.out; have hcz17_0 : w15.cell? ⟨gb106, 0, none⟩ = some (.int .i64 0) := (blk_cell BK106.out 0).trans rfl; have hcz17_1 : w15.cell? ⟨gb106, 1, none⟩ = some (.int .i64 0) := (blk_cell BK106.out 1).trans rfl; have hcz17_2 : w15.cell? ⟨gb106, 2, none⟩ = some (.slice none 0 0) := (blk_cell BK106.out 2).trans rfl; have hfz17_0 := blk_frozen BK106.out 0; have hfz17_1 := blk_frozen BK106.out 1; have hfz17_2 := blk_frozen BK106.out 2) | ((with_reducible refine gate_callee (f := 31) rfl ?_); refine goesL_ (some 26) rfl rfl Try.func31 (by kernel_rfl) rfl #[.slice A105_2 ((rd_T67 l0_2 x18_1).f2).length c105_2, .string x5_1] rfl (by (try simp only [List.map_toArray, List.map_cons, List.map_nil]); first | done | rfl | (simp only [List.length_drop, List.length_take]; rfl)) ?_; (with_reducible refine (spec_l3Apply.calls k1 _ _ ((rd_T67 l0_2 x18_1).f2) x5_1 t107 true _ ?side1 ?side2 A10.out).mono ?_); (case side1 => exact Kd.C_below HR105_2.out (by repeat (first | (with_reducible first | exact HB.out | apply below_alloc | apply pw_below_drewN | apply below_drew1 | refine below_set ?_ GE101.out | refine below_set ?_ GE106.out) | exact HB.out))); (case side2 => exact HC105_2.out); rintro e w18 ⟨rfl, hb⟩; refine ⟨_, rfl, ?_⟩; have n0_ := mz (Kd.R_below (by (with_reducible repeat (first | apply Kd.R_alloc | apply Kd.R_drewN | apply Kd.R_drew)); exact (Kd.R_mono (Kd.R_far (p := ⟨gb106, 2, none⟩) (Kd.R_far (p := ⟨gb106, 1, none⟩) (Kd.R_far (p := ⟨gb106, 0, none⟩) (Kd.R_types HO_4.out BK106.out (by decide)) (fun _ hk => hk.2) (.int .i64 ((rd_T67 l0_2 x18_1).f0))) (fun _ hk => hk.2) (.int .i64 ((rd_T67 l0_2 x18_1).f1))) (fun _ hk => hk.2) (.slice A105_2 ((rd_T67 l0_2 x18_1).f2).length c105_2)) (fun _ h_ => h_.1))) hb); have n1_ := mz (blk_below (g := gb101) (o := .cells #[.string a0_0, .string a0_1, .slice (some ad105) l0_2.length c0_2] 24 (0, 0)) (by (with_reducible repeat (first | refine blk_drewN ?_ _ | refine blk_drew ?_ | refine blk_alloc ?_ _)); refine blk_far ?_ NB101_106.out _; (with_reducible repeat (first | refine blk_drewN ?_ _ | refine blk_drew ?_ | refine blk_alloc ?_ _)); refine blk_far ?_ NB101_106.out _; (with_reducible repeat (first | refine blk_drewN ?_ _ | refine blk_drew ?_ | refine blk_alloc ?_ _)); refine blk_far ?_ NB101_106.out _; (with_reducible repeat (first | refine blk_drewN ?_ _ | refine blk_drew ?_ | refine blk_alloc ?_ _)); exact BK101.out) hb); have n2_ := mz (blk_below (g := gb106) (o := .cells #[.int .i64 ((rd_T67 l0_2 x18_1).f0), .int .i64 ((rd_T67 l0_2 x18_1).f1), .slice A105_2 ((rd_T67 l0_2 x18_1).f2).length c105_2] 67 (0, 0)) (by (with_reducible repeat (first | refine blk_drewN ?_ _ | refine blk_drew ?_ | refine blk_alloc ?_ _)); refine blk_put (cs := #[.int .i64 ((rd_T67 l0_2 x18_1).f0), .int .i64 ((rd_T67 l0_2 x18_1).f1), .slice none 0 0]) ?_ 2 _ rfl; (with_reducible repeat (first | refine blk_drewN ?_ _ | refine blk_drew ?_ | refine blk_alloc ?_ _)); refine blk_put (cs := #[.int .i64 ((rd_T67 l0_2 x18_1).f0), .int .i64 0, .slice none 0 0]) ?_ 1 _ rfl; (with_reducible repeat (first | refine blk_drewN ?_ _ | refine blk_drew ?_ | refine blk_alloc ?_ _)); refine blk_put (cs := #[.int .i64 0, .int .i64 0, .slice none 0 0]) ?_ 0 _ rfl; (with_reducible repeat (first | refine blk_drewN ?_ _ | refine blk_drew ?_ | refine blk_alloc ?_ _)); exact BK106.out) hb); have n3_ := mz (below_step (by repeat (first | (with_reducible first | exact HB.out | apply below_alloc | apply pw_below_drewN | apply below_drew1 | refine below_set ?_ GE101.out | refine below_set ?_ GE106.out) | exact HB.out)) hb); clear HO_4; clear BK101; clear BK106; clear HB; have HO_4 := n0_; have BK101 := n1_; have BK106 := n2_; have HB := n3_; clear n0_ n1_ n2_ n3_; (try clear hb); (try clear hb2); (try clear hk); (try clear hi)) | (go_at_call 39; (with_reducible refine (spec_GoodText.calls k1 t107 true _ A12.out).mono ?_); rintro e w' ⟨rfl, ⟨nd, rfl⟩⟩) | ((with_reducible refine gate_builtin (b := .append) (xs := #[.tmp 37, .tmp 39]) rfl ?_); at_builtin; refine Kd.R_append Kd.string (w0 := w) w.heap.size rfl (.tmp 37) (.tmp 39) 59 9 (.string ⟨#[]⟩) 16 rfl Try.underlying59 info9 rfl (by decide) (by omega) u4 x4_1 t107 [.string t107] (fun _ => True) (fun _ => False) rfl rfl ?aP (fun _ hk => hk.elim) ?aF ?aO ?aB ?aS ?aL ?_; (case aP => exact rfl); (case aB => exact (by repeat (first | (with_reducible first | exact HB.out | apply below_alloc | apply pw_below_drewN | apply below_drew1 | refine below_set ?_ GE101.out | refine below_set ?_ GE106.out) | exact HB.out))); (case aF => exact (fun _ _ => trivial)); (case aO => exact (by (with_reducible repeat (first | apply Kd.R_alloc | apply Kd.R_drewN | apply Kd.R_drew)); exact HO_4.out)); (case aS => exact (below_size (by repeat (first | (with_reducible first | exact HB.out | apply below_alloc | apply pw_below_drewN | apply below_drew1 | refine below_set ?_ GE101.out | refine below_set ?_ GE106.out) | exact HB.out)))); (case aL => have := LMc14.out; omega); intro v111 w19 ho hb hg hat; rw [← Ny110.out] at ho; have n0_ := mz (blk_grown (g := gb101) (o := .cells #[.string a0_0, .string a0_1, .slice (some ad105) l0_2.length c0_2] 24 (0, 0)) (by (with_reducible repeat (first | refine blk_drewN ?_ _ | refine blk_drew ?_ | refine blk_alloc ?_ _)); exact BK101.out) hg (Kd.R_ne HO_4.out BK101.out (by decide))); have n1_ := mz (blk_grown (g := gb106) (o := .cells #[.int .i64 ((rd_T67 l0_2 x18_1).f0), .int .i64 ((rd_T67 l0_2 x18_1).f1), .slice A105_2 ((rd_T67 l0_2 x18_1).f2).length c105_2] 67 (0, 0)) (by (with_reducible repeat (first | refine blk_drewN ?_ _ | refine blk_drew ?_ | refine blk_alloc ?_ _)); exact BK106.out) hg (Kd.R_ne HO_4.out BK106.out (by decide))); have n2_ := mz (hb); have n3_ := mz (ho); clear BK101; clear BK106; clear HB; clear HO_4; have BK101 := n0_; have BK106 := n1_; have HB := n2_; have HO112 := n3_; clear n0_ n1_ n2_ n3_; clear ho hb hg hat))
                  go_roundg k1
                  case measure => have := HK1.out; omega
                  case rel => exact ⟨(y110), (t107), (wrap64 (x18_1 + 1)), (by first | rfl | (simp; done) | (simp [*]; done)), (by first | rfl | (simp; done) | (simp [*]; done)), H', ⟨by have := HK1.out; omega⟩, ⟨by (with_reducible repeat (first | apply Kd.R_alloc | apply Kd.R_drewN | apply Kd.R_drew)); exact HO112.out⟩, ⟨by (with_reducible repeat (first | refine blk_drewN ?_ _ | refine blk_drew ?_ | refine blk_alloc ?_ _)); exact BK101.out⟩, ⟨by repeat (first | (with_reducible first | exact HB.out | apply below_alloc | apply pw_below_drewN | apply below_drew1 | refine below_set ?_ GE101.out | refine below_set ?_ GE106.out) | exact HB.out)⟩⟩
                · rw [if_neg c14] at H
                  exact absurd H (by simp)
              · replace c13 := Bool.eq_false_iff.mpr c13
                subst c13
                have H1 : (some (([] : List ByteArray), false)) = some (r1, r2) := by rw [if_neg (show ¬ (false = true) by decide)] at H; exact H
                clear H
                have H := H1
                clear H1
                simp only [Option.some.injEq, Prod.mk.injEq] at H
                obtain ⟨rfl, rfl⟩ := H
                have p105 : 0 ≤ (x18_1 : Int) := of_decide_eq_true (by first | (with_reducible assumption) | assumption)
                have q105 : x18_1 < (l0_2.length : Int) := of_decide_eq_true (by first | (with_reducible assumption) | assumption)
                obtain ⟨ad105, A105_2, c105_2, e105, hx105_0, hx105_1, hx105_2, hl105_2, hi105_2⟩ := at_T67 HR0_2.out x18_1 p105 q105
                cases e105
                replace hx105_0 := bc_ HB.out hx105_0
                replace hx105_1 := bc_ HB.out hx105_1
                replace hx105_2 := bc_ HB.out hx105_2
                have HR105_2 := mz hi105_2
                have HC105_2 := mz hl105_2
                clear hi105_2 hl105_2
                replace p105 := eq_true p105
                replace q105 := eq_true q105
                go_wp2_with (first | ((with_reducible refine gate_dst (N := 7) rfl ?_); refine box_event ?hg (N := 7) ?hd (cs := #[.int .i64 0, .int .i64 0, .slice none 0 0]) (t := 67) ?hr ?_; (case hd => rfl); (case hg => rfl); (case hr => first | (go_simp; done) | (go_simp; rfl)); intro gb106 hg w20 hbox hb; have n0_ := mz (Kd.R_below (by (with_reducible repeat (first | apply Kd.R_alloc | apply Kd.R_drewN | apply Kd.R_drew)); exact HO_4.out) hb); have n1_ := mz (blk_below (g := gb101) (o := .cells #[.string a0_0, .string a0_1, .slice (some ad105) l0_2.length c0_2] 24 (0, 0)) (by (with_reducible repeat (first | refine blk_drewN ?_ _ | refine blk_drew ?_ | refine blk_alloc ?_ _)); exact BK101.out) hb); have n2_ := mz (below_step (by repeat (first | (with_reducible first | exact HB.out | apply below_alloc | apply pw_below_drewN | apply below_drew1 | refine below_set ?_ GE101.out) | exact HB.out)) hb); have n3_ := mz (hbox); have n4_ := mz ((by rw [hg]; exact (below_size (by repeat (first | (with_reducible first | exact HB.out | apply below_alloc | apply pw_below_drewN | apply below_drew1 | refine below_set ?_ GE101.out) | exact HB.out))) : w.heap.size ≤ gb106)); have n5_ := mz ((by rw [hg]; exact (below_size (by repeat (first | (with_reducible first | exact HB.out | apply below_alloc | apply pw_below_drewN | apply below_drew1 | refine below_set ?_ GE101.out) | exact HB.out))) : w.heap.size ≤ gb106)); have n6_ := mz ((by rw [hg]; exact Nat.ne_of_lt (blk_lt (g := gb101) (o := .cells #[.string a0_0, .string a0_1, .slice (some ad105) l0_2.length c0_2] 24 (0, 0)) (by (with_reducible repeat (first | refine blk_drewN ?_ _ | refine blk_drew ?_ | refine blk_alloc ?_ _)); exact BK101.out)) : gb101 ≠ gb106)); have n7_ := mz ((by rw [hg]; exact Nat.ne_of_gt (blk_lt (g := gb101) (o := .cells #[.string a0_0, .string a0_1, .slice (some ad105) l0_2.length c0_2] 24 (0, 0)) (by (with_reducible repeat (first | refine blk_drewN ?_ _ | refine blk_drew ?_ | refine blk_alloc ?_ _)); exact BK101.out)) : gb106 ≠ gb101)); clear HO_4; clear BK101; clear HB; have HO_4 := n0_; have BK101 := n1_; have HB := n2_; have BK106 := n3_; have GW106 := n4_; have GE106 := n5_; have NB101_106 := n6_; have NB106_101 := n7_; clear n0_ n1_ n2_ n3_ n4_ n5_ n6_ n7_; clear hb hbox hg; have hnb21 := NB106_101.out; have hnc21 := NB101_106.out; have hcz22_0 : w20.cell? ⟨gb106, 0, none⟩ = some (.int .i64 0) := (blk_cell BK106.out 0).trans rfl; have hcz22_1 : w20.cell? ⟨gb106, 1, none⟩ = some (.int .i64 0) := (blk_cell BK106.out 1).trans rfl; have hcz22_2 : w20.cell? ⟨gb106, 2, none⟩ = some (.slice none 0 0) := (blk_cell BK106.out 2).trans rfl; have hfz22_0 := blk_frozen BK106.out 0; have hfz22_1 := blk_frozen BK106.out 1; have hfz22_2 := blk_frozen BK106.out 2) | ((with_reducible refine gate_callee (f := 31) rfl ?_); refine goesL_ (some 26) rfl rfl Try.func31 (by kernel_rfl) rfl #[.slice A105_2 ((rd_T67 l0_2 x18_1).f2).length c105_2, .string x5_1] rfl (by (try simp only [List.map_toArray, List.map_cons, List.map_nil]); first | done | rfl | (simp only [List.length_drop, List.length_take]; rfl)) ?_; (with_reducible refine (spec_l3Apply.calls k1 _ _ ((rd_T67 l0_2 x18_1).f2) x5_1 t107 true _ ?side1 ?side2 A10.out).mono ?_); (case side1 => exact Kd.C_below HR105_2.out (by repeat (first | (with_reducible first | exact HB.out | apply below_alloc | apply pw_below_drewN | apply below_drew1 | refine below_set ?_ GE101.out | refine below_set ?_ GE106.out) | exact HB.out))); (case side2 => exact HC105_2.out); rintro e w23 ⟨rfl, hb⟩; refine ⟨_, rfl, ?_⟩; have n0_ := mz (Kd.R_below (by (with_reducible repeat (first | apply Kd.R_alloc | apply Kd.R_drewN | apply Kd.R_drew)); exact (Kd.R_mono (Kd.R_far (p := ⟨gb106, 2, none⟩) (Kd.R_far (p := ⟨gb106, 1, none⟩) (Kd.R_far (p := ⟨gb106, 0, none⟩) (Kd.R_types HO_4.out BK106.out (by decide)) (fun _ hk => hk.2) (.int .i64 ((rd_T67 l0_2 x18_1).f0))) (fun _ hk => hk.2) (.int .i64 ((rd_T67 l0_2 x18_1).f1))) (fun _ hk => hk.2) (.slice A105_2 ((rd_T67 l0_2 x18_1).f2).length c105_2)) (fun _ h_ => h_.1))) hb); have n1_ := mz (blk_below (g := gb101) (o := .cells #[.string a0_0, .string a0_1, .slice (some ad105) l0_2.length c0_2] 24 (0, 0)) (by (with_reducible repeat (first | refine blk_drewN ?_ _ | refine blk_drew ?_ | refine blk_alloc ?_ _)); refine blk_far ?_ NB101_106.out _; (with_reducible repeat (first | refine blk_drewN ?_ _ | refine blk_drew ?_ | refine blk_alloc ?_ _)); refine blk_far ?_ NB101_106.out _; (with_reducible repeat (first | refine blk_drewN ?_ _ | refine blk_drew ?_ | refine blk_alloc ?_ _)); refine blk_far ?_ NB101_106.out _; (with_reducible repeat (first | refine blk_drewN ?_ _ | refine blk_drew ?_ | refine blk_alloc ?_ _)); exact BK101.out) hb); have n2_ := mz (blk_below (g := gb106) (o := .cells #[.int .i64 ((rd_T67 l0_2 x18_1).f0), .int .i64 ((rd_T67 l0_2 x18_1).f1), .slice A105_2 ((rd_T67 l0_2 x18_1).f2).length c105_2] 67 (0, 0)) (by (with_reducible repeat (first | refine blk_drewN ?_ _ | refine blk_drew ?_ | refine blk_alloc ?_ _)); refine blk_put (cs := #[.int .i64 ((rd_T67 l0_2 x18_1).f0), .int .i64 ((rd_T67 l0_2 x18_1).f1), .slice none 0 0]) ?_ 2 _ rfl; (with_reducible repeat (first | refine blk_drewN ?_ _ | refine blk_drew ?_ | refine blk_alloc ?_ _)); refine blk_put (cs := #[.int .i64 ((rd_T67 l0_2 x18_1).f0), .int .i64 0, .slice none 0 0]) ?_ 1 _ rfl; (with_reducible repeat (first | refine blk_drewN ?_ _ | refine blk_drew ?_ | refine blk_alloc ?_ _)); refine blk_put (cs := #[.int .i64 0, .int .i64 0, .slice none 0 0]) ?_ 0 _ rfl; (with_reducible repeat (first | refine blk_drewN ?_ _ | refine blk_drew ?_ | refine blk_alloc ?_ _)); exact BK106.out) hb); have n3_ := mz (below_step (by repeat (first | (with_reducible first | exact HB.out | apply below_alloc | apply pw_below_drewN | apply below_drew1 | refine below_set ?_ GE101.out | refine below_set ?_ GE106.out) | exact HB.out)) hb); clear HO_4; clear BK101; clear BK106; clear HB; have HO_4 := n0_; have BK101 := n1_; have BK106 := n2_; have HB := n3_; clear n0_ n1_ n2_ n3_; (try clear hb); (try clear hb2); (try clear hk); (try clear hi)) | (go_at_call 39; (with_reducible refine (spec_GoodText.calls k1 t107 false _ A12.out).mono ?_); rintro e w' ⟨rfl, ⟨nd, rfl⟩⟩))
                go_ret2
                exact ⟨_, by first | rfl | (simp [errW_none, errW_some] <;> rfl) | (simp [*, errW_none, errW_some] <;> rfl), by first | exact Kd.R_nil _ _ _ _ _ | exact Kd.N_nil _ _ _ _ _ | exact Kd.V_nil _ _ _ _ _ | exact Kd.Q_nil _ _ _ _ _ | exact Kd.S_nil _ _ _ _ _, by repeat (first | (with_reducible first | exact HB.out | apply below_alloc | apply pw_below_drewN | apply below_drew1 | refine below_set ?_ GE101.out | refine below_set ?_ GE106.out) | exact HB.out)⟩
            · replace c11 := Bool.eq_false_iff.mpr c11
              subst c11
              have H1 : (some (([] : List ByteArray), false)) = some (r1, r2) := by rw [if_neg (show ¬ (false = true) by decide)] at H; exact H
              clear H
              have H := H1
              clear H1
              simp only [Option.some.injEq, Prod.mk.injEq] at H
              obtain ⟨rfl, rfl⟩ := H
              have p105 : 0 ≤ (x18_1 : Int) := of_decide_eq_true (by first | (with_reducible assumption) | assumption)
              have q105 : x18_1 < (l0_2.length : Int) := of_decide_eq_true (by first | (with_reducible assumption) | assumption)
              obtain ⟨ad105, A105_2, c105_2, e105, hx105_0, hx105_1, hx105_2, hl105_2, hi105_2⟩ := at_T67 HR0_2.out x18_1 p105 q105
              cases e105
              replace hx105_0 := bc_ HB.out hx105_0
              replace hx105_1 := bc_ HB.out hx105_1
              replace hx105_2 := bc_ HB.out hx105_2
              have HR105_2 := mz hi105_2
              have HC105_2 := mz hl105_2
              clear hi105_2 hl105_2
              replace p105 := eq_true p105
              replace q105 := eq_true q105
              go_wp2_with (first | ((with_reducible refine gate_dst (N := 7) rfl ?_); refine box_event ?hg (N := 7) ?hd (cs := #[.int .i64 0, .int .i64 0, .slice none 0 0]) (t := 67) ?hr ?_; (case hd => rfl); (case hg => rfl); (case hr => first | (go_simp; done) | (go_simp; rfl)); intro gb106 hg w24 hbox hb; have n0_ := mz (Kd.R_below (by (with_reducible repeat (first | apply Kd.R_alloc | apply Kd.R_drewN | apply Kd.R_drew)); exact HO_4.out) hb); have n1_ := mz (blk_below (g := gb101) (o := .cells #[.string a0_0, .string a0_1, .slice (some ad105) l0_2.length c0_2] 24 (0, 0)) (by (with_reducible repeat (first | refine blk_drewN ?_ _ | refine blk_drew ?_ | refine blk_alloc ?_ _)); exact BK101.out) hb); have n2_ := mz (below_step (by repeat (first | (with_reducible first | exact HB.out | apply below_alloc | apply pw_below_drewN | apply below_drew1 | refine below_set ?_ GE101.out) | exact HB.out)) hb); have n3_ := mz (hbox); have n4_ := mz ((by rw [hg]; exact (below_size (by repeat (first | (with_reducible first | exact HB.out | apply below_alloc | apply pw_below_drewN | apply below_drew1 | refine below_set ?_ GE101.out) | exact HB.out))) : w.heap.size ≤ gb106)); have n5_ := mz ((by rw [hg]; exact (below_size (by repeat (first | (with_reducible first | exact HB.out | apply below_alloc | apply pw_below_drewN | apply below_drew1 | refine below_set ?_ GE101.out) | exact HB.out))) : w.heap.size ≤ gb106)); have n6_ := mz ((by rw [hg]; exact Nat.ne_of_lt (blk_lt (g := gb101) (o := .cells #[.string a0_0, .string a0_1, .slice (some ad105) l0_2.length c0_2] 24 (0, 0)) (by (with_reducible repeat (first | refine blk_drewN ?_ _ | refine blk_drew ?_ | refine blk_alloc ?_ _)); exact BK101.out)) : gb101 ≠ gb106)); have n7_ := mz ((by rw [hg]; exact Nat.ne_of_gt (blk_lt (g := gb101) (o := .cells #[.string a0_0, .string a0_1, .slice (some ad105) l0_2.length c0_2] 24 (0, 0)) (by (with_reducible repeat (first | refine blk_drewN ?_ _ | refine blk_drew ?_ | refine blk_alloc ?_ _)); exact BK101.out)) : gb106 ≠ gb101)); clear HO_4; clear BK101; clear HB; have HO_4 := n0_; have BK101 := n1_; have HB := n2_; have BK106 := n3_; have GW106 := n4_; have GE106 := n5_; have NB101_106 := n6_; have NB106_101 := n7_; clear n0_ n1_ n2_ n3_ n4_ n5_ n6_ n7_; clear hb hbox hg; have hnb25 := NB106_101.out; have hnc25 := NB101_106.out; have hcz26_0 : w24.cell? ⟨gb106, 0, none⟩ = some (.int .i64 0) := (blk_cell BK106.out 0).trans rfl; have hcz26_1 : w24.cell? ⟨gb106, 1, none⟩ = some (.int .i64 0) := (blk_cell BK106.out 1).trans rfl; have hcz26_2 : w24.cell? ⟨gb106, 2, none⟩ = some (.slice none 0 0) := (blk_cell BK106.out 2).trans rfl; have hfz26_0 := blk_frozen BK106.out 0; have hfz26_1 := blk_frozen BK106.out 1; have hfz26_2 := blk_frozen BK106.out 2) | ((with_reducible refine gate_callee (f := 31) rfl ?_); refine goesL_ (some 26) rfl rfl Try.func31 (by kernel_rfl) rfl #[.slice A105_2 ((rd_T67 l0_2 x18_1).f2).length c105_2, .string x5_1] rfl (by (try simp only [List.map_toArray, List.map_cons, List.map_nil]); first | done | rfl | (simp only [List.length_drop, List.length_take]; rfl)) ?_; (with_reducible refine (spec_l3Apply.calls k1 _ _ ((rd_T67 l0_2 x18_1).f2) x5_1 t107 false _ ?side1 ?side2 A10.out).mono ?_); (case side1 => exact Kd.C_below HR105_2.out (by repeat (first | (with_reducible first | exact HB.out | apply below_alloc | apply pw_below_drewN | apply below_drew1 | refine below_set ?_ GE101.out | refine below_set ?_ GE106.out) | exact HB.out))); (case side2 => exact HC105_2.out); rintro e w27 ⟨rfl, hb⟩; refine ⟨_, rfl, ?_⟩; have n0_ := mz (Kd.R_below (by (with_reducible repeat (first | apply Kd.R_alloc | apply Kd.R_drewN | apply Kd.R_drew)); exact (Kd.R_mono (Kd.R_far (p := ⟨gb106, 2, none⟩) (Kd.R_far (p := ⟨gb106, 1, none⟩) (Kd.R_far (p := ⟨gb106, 0, none⟩) (Kd.R_types HO_4.out BK106.out (by decide)) (fun _ hk => hk.2) (.int .i64 ((rd_T67 l0_2 x18_1).f0))) (fun _ hk => hk.2) (.int .i64 ((rd_T67 l0_2 x18_1).f1))) (fun _ hk => hk.2) (.slice A105_2 ((rd_T67 l0_2 x18_1).f2).length c105_2)) (fun _ h_ => h_.1))) hb); have n1_ := mz (blk_below (g := gb101) (o := .cells #[.string a0_0, .string a0_1, .slice (some ad105) l0_2.length c0_2] 24 (0, 0)) (by (with_reducible repeat (first | refine blk_drewN ?_ _ | refine blk_drew ?_ | refine blk_alloc ?_ _)); refine blk_far ?_ NB101_106.out _; (with_reducible repeat (first | refine blk_drewN ?_ _ | refine blk_drew ?_ | refine blk_alloc ?_ _)); refine blk_far ?_ NB101_106.out _; (with_reducible repeat (first | refine blk_drewN ?_ _ | refine blk_drew ?_ | refine blk_alloc ?_ _)); refine blk_far ?_ NB101_106.out _; (with_reducible repeat (first | refine blk_drewN ?_ _ | refine blk_drew ?_ | refine blk_alloc ?_ _)); exact BK101.out) hb); have n2_ := mz (blk_below (g := gb106) (o := .cells #[.int .i64 ((rd_T67 l0_2 x18_1).f0), .int .i64 ((rd_T67 l0_2 x18_1).f1), .slice A105_2 ((rd_T67 l0_2 x18_1).f2).length c105_2] 67 (0, 0)) (by (with_reducible repeat (first | refine blk_drewN ?_ _ | refine blk_drew ?_ | refine blk_alloc ?_ _)); refine blk_put (cs := #[.int .i64 ((rd_T67 l0_2 x18_1).f0), .int .i64 ((rd_T67 l0_2 x18_1).f1), .slice none 0 0]) ?_ 2 _ rfl; (with_reducible repeat (first | refine blk_drewN ?_ _ | refine blk_drew ?_ | refine blk_alloc ?_ _)); refine blk_put (cs := #[.int .i64 ((rd_T67 l0_2 x18_1).f0), .int .i64 0, .slice none 0 0]) ?_ 1 _ rfl; (with_reducible repeat (first | refine blk_drewN ?_ _ | refine blk_drew ?_ | refine blk_alloc ?_ _)); refine blk_put (cs := #[.int .i64 0, .int .i64 0, .slice none 0 0]) ?_ 0 _ rfl; (with_reducible repeat (first | refine blk_drewN ?_ _ | refine blk_drew ?_ | refine blk_alloc ?_ _)); exact BK106.out) hb); have n3_ := mz (below_step (by repeat (first | (with_reducible first | exact HB.out | apply below_alloc | apply pw_below_drewN | apply below_drew1 | refine below_set ?_ GE101.out | refine below_set ?_ GE106.out) | exact HB.out)) hb); clear HO_4; clear BK101; clear BK106; clear HB; have HO_4 := n0_; have BK101 := n1_; have BK106 := n2_; have HB := n3_; clear n0_ n1_ n2_ n3_; (try clear hb); (try clear hb2); (try clear hk); (try clear hi)))
              go_ret2
              exact ⟨_, by first | rfl | (simp [errW_none, errW_some] <;> rfl) | (simp [*, errW_none, errW_some] <;> rfl), by first | exact Kd.R_nil _ _ _ _ _ | exact Kd.N_nil _ _ _ _ _ | exact Kd.V_nil _ _ _ _ _ | exact Kd.Q_nil _ _ _ _ _ | exact Kd.S_nil _ _ _ _ _, by repeat (first | (with_reducible first | exact HB.out | apply below_alloc | apply pw_below_drewN | apply below_drew1 | refine below_set ?_ GE101.out | refine below_set ?_ GE106.out) | exact HB.out)⟩
          · rw [if_neg c9] at H
            exact absurd H (by simp)
        · rw [if_neg c8] at H
          exact absurd H (by simp)
      · rw [if_neg c7] at H
        have c7b0 : decide (x18_1 < (l0_2.length : Int)) = false := decide_eq_false c7
        clear c7
        simp only [Option.some.injEq, Prod.mk.injEq] at H
        obtain ⟨rfl, rfl⟩ := H
        go_wp2
        go_ret2
        exact ⟨_, by first | rfl | (simp [errW_none, errW_some] <;> rfl) | (simp [*, errW_none, errW_some] <;> rfl), by (with_reducible repeat (first | apply Kd.R_alloc | apply Kd.R_drewN | apply Kd.R_drew)); exact HO_4.out, by repeat (first | (with_reducible first | exact HB.out | apply below_alloc | apply pw_below_drewN | apply below_drew1 | refine below_set ?_ GE101.out) | exact HB.out)⟩
end
section
attribute [local go_sem] max2_int min2_int max_two min_two max_three min_three max_four min_four
def spec_l15Entry.f (k : Nat) (a0_0 : Int) (a0_1 : Int) (l0_2 : List (S86)) : Option (Bool) := (spec_l1In.f a0_0 0 9).bind fun t102 => (if t102 = true then ((spec_l1In.f a0_1 1 1000).bind fun t103 => (if t103 = true then ((spec_GoodOp.f k l0_2).bind fun t104 => (some t104)) else (some false))) else (some false))
set_option maxHeartbeats 8000000 in
set_option maxRecDepth 100000 in
theorem spec_l15Entry.calls (k : Nat) (a0_0 : Int) (a0_1 : Int) (A0_2 : Option Addr) (c0_2 : Nat) (l0_2 : List (S86)) (r : Bool) (w : World) (hr0_2 : Kd.C k86 w A0_2 l0_2.length l0_2) (hc0_2 : l0_2.length ≤ c0_2) (h : spec_l15Entry.f k a0_0 a0_1 l0_2 = some r) :
    Calls Try.prog 50 #[.agg #[.int .i64 a0_0, .int .i64 a0_1, .slice A0_2 l0_2.length c0_2]] w fun e w' => e = .returned (.bool r) ∧ Below w.heap.size w w' := by
  have hu67 := Try.underlying67
  have HR0_2 := mz hr0_2
  have HC0_2 := mz hc0_2
  clear hr0_2 hc0_2
  have HB := mz (Below.refl w.heap.size w)
  have H : ((spec_l1In.f a0_0 0 9).bind fun t102 => (if t102 = true then ((spec_l1In.f a0_1 1 1000).bind fun t103 => (if t103 = true then ((spec_GoodOp.f k l0_2).bind fun t104 => (some t104)) else (some false))) else (some false))) = some r := h
  clear h
  replace H := be0_ H
  obtain ⟨t102, A20, H⟩ := H
  replace H : (if t102 = true then ((spec_l1In.f a0_1 1 1000).bind fun t103 => (if t103 = true then ((spec_GoodOp.f k l0_2).bind fun t104 => (some t104)) else (some false))) else (some false)) = some r := H
  have A2 := mz A20
  clear A20
  by_cases c3 : t102 = true
  · subst c3
    have H1 : ((spec_l1In.f a0_1 1 1000).bind fun t103 => (if t103 = true then ((spec_GoodOp.f k l0_2).bind fun t104 => (some t104)) else (some false))) = some r := by rw [if_pos rfl] at H; exact H
    clear H
    have H := H1
    clear H1
    replace H := be0_ H
    obtain ⟨t103, A40, H⟩ := H
    replace H : (if t103 = true then ((spec_GoodOp.f k l0_2).bind fun t104 => (some t104)) else (some false)) = some r := H
    have A4 := mz A40
    clear A40
    by_cases c5 : t103 = true
    · subst c5
      have H1 : ((spec_GoodOp.f k l0_2).bind fun t104 => (some t104)) = some r := by rw [if_pos rfl] at H; exact H
      clear H
      have H := H1
      clear H1
      replace H := be0_ H
      obtain ⟨t104, A60, H⟩ := H
      replace H : (some t104) = some r := H
      have A6 := mz A60
      clear A60
      obtain rfl := Option.some.inj H
      go_enter Try.func50, Try.ntmps50
      go_wp2_with (first | ((with_reducible refine gate_dst (N := 1) rfl ?_); refine box_event ?hg (N := 1) ?hd (cs := #[.int .i64 a0_0, .int .i64 a0_1, .slice A0_2 l0_2.length c0_2]) (t := 67) ?hr ?_; (case hd => rfl); (case hg => rfl); (case hr => first | (go_simp; done) | (go_simp; rfl)); intro gb101 hg w7 hbox hb; have n0_ := mz (below_step (by repeat (first | (with_reducible first | exact HB.out | apply below_alloc | apply pw_below_drewN | apply below_drew1) | exact HB.out)) hb); have n1_ := mz (hbox); have n2_ := mz ((by rw [hg]; exact (below_size (by repeat (first | (with_reducible first | exact HB.out | apply below_alloc | apply pw_below_drewN | apply below_drew1) | exact HB.out))) : w.heap.size ≤ gb101)); have n3_ := mz ((by rw [hg]; exact (below_size (by repeat (first | (with_reducible first | exact HB.out | apply below_alloc | apply pw_below_drewN | apply below_drew1) | exact HB.out))) : w.heap.size ≤ gb101)); clear HB; have HB := n0_; have BK101 := n1_; have GW101 := n2_; have GE101 := n3_; clear n0_ n1_ n2_ n3_; clear hb hbox hg; have hcz8_0 : w7.cell? ⟨gb101, 0, none⟩ = some (.int .i64 a0_0) := (blk_cell BK101.out 0).trans rfl; have hcz8_1 : w7.cell? ⟨gb101, 1, none⟩ = some (.int .i64 a0_1) := (blk_cell BK101.out 1).trans rfl; have hcz8_2 : w7.cell? ⟨gb101, 2, none⟩ = some (.slice A0_2 l0_2.length c0_2) := (blk_cell BK101.out 2).trans rfl; have hfz8_0 := blk_frozen BK101.out 0; have hfz8_1 := blk_frozen BK101.out 1; have hfz8_2 := blk_frozen BK101.out 2) | ((with_reducible refine gate_callee (f := 18) rfl ?_); refine goesL_ (some 5) rfl rfl Try.func18 (by kernel_rfl) rfl #[.int .i64 a0_0, .int .i64 0, .int .i64 9] rfl (by (try simp only [List.map_toArray, List.map_cons, List.map_nil]); first | done | rfl | (simp only [List.length_drop, List.length_take]; rfl)) ?_; (with_reducible refine (spec_l1In.calls a0_0 0 9 true _ A2.out).mono ?_); rintro e w' ⟨rfl, ⟨nd, rfl⟩⟩; refine ⟨_, rfl, ?_⟩) | (go_at_call 18; (with_reducible refine (spec_l1In.calls a0_1 1 1000 true _ A4.out).mono ?_); rintro e w' ⟨rfl, ⟨nd, rfl⟩⟩) | (go_at_call 51; (with_reducible refine (spec_GoodOp.calls k _ _ l0_2 t104 _ ?side1 ?side2 A6.out).mono ?_); (case side1 => repeat (first | exact (Kd.C_below HR0_2.out (by repeat (first | (with_reducible first | exact HB.out | apply below_alloc | apply pw_below_drewN | apply below_drew1 | refine below_set ?_ GE101.out) | exact HB.out))) | (with_reducible refine Kd.C_alloc ?_ _) | (with_reducible refine Kd.C_drewN ?_ _) | (with_reducible refine Kd.C_drew ?_))); (case side2 => exact HC0_2.out); rintro e w9 ⟨rfl, hb⟩; have n0_ := mz (blk_below (g := gb101) (o := .cells #[.int .i64 a0_0, .int .i64 a0_1, .slice A0_2 l0_2.length c0_2] 67 (0, 0)) (by (with_reducible repeat (first | refine blk_drewN ?_ _ | refine blk_drew ?_ | refine blk_alloc ?_ _)); exact BK101.out) hb); have n1_ := mz (below_step (by repeat (first | (with_reducible first | exact HB.out | apply below_alloc | apply pw_below_drewN | apply below_drew1 | refine below_set ?_ GE101.out) | exact HB.out)) hb); clear BK101; clear HB; have BK101 := n0_; have HB := n1_; clear n0_ n1_; (try clear hb); (try clear hb2); (try clear hk); (try clear hi)))
      go_ret
      exact ⟨by first | rfl | (simp [errW_none, errW_some] <;> rfl) | (simp [*, errW_none, errW_some] <;> rfl), by repeat (first | (with_reducible first | exact HB.out | apply below_alloc | apply pw_below_drewN | apply below_drew1 | refine below_set ?_ GE101.out) | exact HB.out)⟩
    · replace c5 := Bool.eq_false_iff.mpr c5
      subst c5
      have H1 : (some false) = some r := by rw [if_neg (show ¬ (false = true) by decide)] at H; exact H
      clear H
      have H := H1
      clear H1
      obtain rfl := Option.some.inj H
      go_enter Try.func50, Try.ntmps50
      go_wp2_with (first | ((with_reducible refine gate_dst (N := 1) rfl ?_); refine box_event ?hg (N := 1) ?hd (cs := #[.int .i64 a0_0, .int .i64 a0_1, .slice A0_2 l0_2.length c0_2]) (t := 67) ?hr ?_; (case hd => rfl); (case hg => rfl); (case hr => first | (go_simp; done) | (go_simp; rfl)); intro gb101 hg w10 hbox hb; have n0_ := mz (below_step (by repeat (first | (with_reducible first | exact HB.out | apply below_alloc | apply pw_below_drewN | apply below_drew1) | exact HB.out)) hb); have n1_ := mz (hbox); have n2_ := mz ((by rw [hg]; exact (below_size (by repeat (first | (with_reducible first | exact HB.out | apply below_alloc | apply pw_below_drewN | apply below_drew1) | exact HB.out))) : w.heap.size ≤ gb101)); have n3_ := mz ((by rw [hg]; exact (below_size (by repeat (first | (with_reducible first | exact HB.out | apply below_alloc | apply pw_below_drewN | apply below_drew1) | exact HB.out))) : w.heap.size ≤ gb101)); clear HB; have HB := n0_; have BK101 := n1_; have GW101 := n2_; have GE101 := n3_; clear n0_ n1_ n2_ n3_; clear hb hbox hg; have hcz11_0 : w10.cell? ⟨gb101, 0, none⟩ = some (.int .i64 a0_0) := (blk_cell BK101.out 0).trans rfl; have hcz11_1 : w10.cell? ⟨gb101, 1, none⟩ = some (.int .i64 a0_1) := (blk_cell BK101.out 1).trans rfl; have hcz11_2 : w10.cell? ⟨gb101, 2, none⟩ = some (.slice A0_2 l0_2.length c0_2) := (blk_cell BK101.out 2).trans rfl; have hfz11_0 := blk_frozen BK101.out 0; have hfz11_1 := blk_frozen BK101.out 1; have hfz11_2 := blk_frozen BK101.out 2) | ((with_reducible refine gate_callee (f := 18) rfl ?_); refine goesL_ (some 5) rfl rfl Try.func18 (by kernel_rfl) rfl #[.int .i64 a0_0, .int .i64 0, .int .i64 9] rfl (by (try simp only [List.map_toArray, List.map_cons, List.map_nil]); first | done | rfl | (simp only [List.length_drop, List.length_take]; rfl)) ?_; (with_reducible refine (spec_l1In.calls a0_0 0 9 true _ A2.out).mono ?_); rintro e w' ⟨rfl, ⟨nd, rfl⟩⟩; refine ⟨_, rfl, ?_⟩) | (go_at_call 18; (with_reducible refine (spec_l1In.calls a0_1 1 1000 false _ A4.out).mono ?_); rintro e w' ⟨rfl, ⟨nd, rfl⟩⟩))
      go_ret
      exact ⟨by first | rfl | (simp [errW_none, errW_some] <;> rfl) | (simp [*, errW_none, errW_some] <;> rfl), by repeat (first | (with_reducible first | exact HB.out | apply below_alloc | apply pw_below_drewN | apply below_drew1 | refine below_set ?_ GE101.out) | exact HB.out)⟩
  · replace c3 := Bool.eq_false_iff.mpr c3
    subst c3
    have H1 : (some false) = some r := by rw [if_neg (show ¬ (false = true) by decide)] at H; exact H
    clear H
    have H := H1
    clear H1
    obtain rfl := Option.some.inj H
    go_enter Try.func50, Try.ntmps50
    go_wp2_with (first | ((with_reducible refine gate_dst (N := 1) rfl ?_); refine box_event ?hg (N := 1) ?hd (cs := #[.int .i64 a0_0, .int .i64 a0_1, .slice A0_2 l0_2.length c0_2]) (t := 67) ?hr ?_; (case hd => rfl); (case hg => rfl); (case hr => first | (go_simp; done) | (go_simp; rfl)); intro gb101 hg w12 hbox hb; have n0_ := mz (below_step (by repeat (first | (with_reducible first | exact HB.out | apply below_alloc | apply pw_below_drewN | apply below_drew1) | exact HB.out)) hb); have n1_ := mz (hbox); have n2_ := mz ((by rw [hg]; exact (below_size (by repeat (first | (with_reducible first | exact HB.out | apply below_alloc | apply pw_below_drewN | apply below_drew1) | exact HB.out))) : w.heap.size ≤ gb101)); have n3_ := mz ((by rw [hg]; exact (below_size (by repeat (first | (with_reducible first | exact HB.out | apply below_alloc | apply pw_below_drewN | apply below_drew1) | exact HB.out))) : w.heap.size ≤ gb101)); clear HB; have HB := n0_; have BK101 := n1_; have GW101 := n2_; have GE101 := n3_; clear n0_ n1_ n2_ n3_; clear hb hbox hg; have hcz13_0 : w12.cell? ⟨gb101, 0, none⟩ = some (.int .i64 a0_0) := (blk_cell BK101.out 0).trans rfl; have hcz13_1 : w12.cell? ⟨gb101, 1, none⟩ = some (.int .i64 a0_1) := (blk_cell BK101.out 1).trans rfl; have hcz13_2 : w12.cell? ⟨gb101, 2, none⟩ = some (.slice A0_2 l0_2.length c0_2) := (blk_cell BK101.out 2).trans rfl; have hfz13_0 := blk_frozen BK101.out 0; have hfz13_1 := blk_frozen BK101.out 1; have hfz13_2 := blk_frozen BK101.out 2) | ((with_reducible refine gate_callee (f := 18) rfl ?_); refine goesL_ (some 5) rfl rfl Try.func18 (by kernel_rfl) rfl #[.int .i64 a0_0, .int .i64 0, .int .i64 9] rfl (by (try simp only [List.map_toArray, List.map_cons, List.map_nil]); first | done | rfl | (simp only [List.length_drop, List.length_take]; rfl)) ?_; (with_reducible refine (spec_l1In.calls a0_0 0 9 false _ A2.out).mono ?_); rintro e w' ⟨rfl, ⟨nd, rfl⟩⟩; refine ⟨_, rfl, ?_⟩))
    go_ret
    exact ⟨by first | rfl | (simp [errW_none, errW_some] <;> rfl) | (simp [*, errW_none, errW_some] <;> rfl), by repeat (first | (with_reducible first | exact HB.out | apply below_alloc | apply pw_below_drewN | apply below_drew1 | refine below_set ?_ GE101.out) | exact HB.out)⟩
end
section
attribute [local go_sem] max2_int min2_int max_two min_two max_three min_three max_four min_four
mutual
def spec_GoodServer.j0 : Nat → Bool → ByteArray → ByteArray → List (S67) → Option (Bool)
  | 0, _, _, _, _ => none
  | k + 1, x18, x102000, x102001, x102002 => if x18 = true then (some false) else (spec_GoodServer.l0 k x102002 (x102002.length : Int) 0 x102000 x102001 x102002)
def spec_GoodServer.l0 : Nat → List (S67) → Int → Int → ByteArray → ByteArray → List (S67) → Option (Bool)
  | 0, _, _, _, _, _, _ => none
  | k + 1, x20, x21, x22, x102000, x102001, x102002 => if x22 < x21 then (if 0 ≤ x22 then (if x22 < (x20.length : Int) then ((spec_l15Entry.f k ((rd_T67 x20 x22).f0) ((rd_T67 x20 x22).f1) ((rd_T67 x20 x22).f2)).bind fun t110 => (if t110 = true then (if x22 ≤ (x102002.length : Int) then ((some (x102002.take (x22 : Int).toNat : List (S67))).bind fun y111 => (spec_GoodServer.l1 k x20 x21 x22 y111 (y111.length : Int) 0 x102000 x102001 x102002 ((rd_T67 x20 x22).f0) ((rd_T67 x20 x22).f1) ((rd_T67 x20 x22).f2))) else (none)) else (some false))) else (none)) else (none)) else ((spec_l15Texts.f k x102000 x102001 x102002).bind fun bt103 => (if bt103.2 = true then (if 0 ≤ (wrap64 ((bt103.1.length : Int) - 1)) then (if (wrap64 ((bt103.1.length : Int) - 1)) < (bt103.1.length : Int) then (some ((rdOf ByteArray.empty bt103.1 (wrap64 ((bt103.1.length : Int) - 1))).toList == x102001.toList)) else (none)) else (none)) else (some false)))
def spec_GoodServer.l1 : Nat → List (S67) → Int → Int → List (S67) → Int → Int → ByteArray → ByteArray → List (S67) → Int → Int → List (S86) → Option (Bool)
  | 0, _, _, _, _, _, _, _, _, _, _, _, _ => none
  | k + 1, x20, x21, x22, x33, x34, x35, x102000, x102001, x102002, x110000, x110001, x110002 => if x35 < x34 then (if 0 ≤ x35 then (if x35 < (x33.length : Int) then (if ((rd_T67 x33 x35).f0) = x110000 then (if ((rd_T67 x33 x35).f1) ≥ x110001 then (some false) else (spec_GoodServer.l1 k x20 x21 x22 x33 x34 (wrap64 (x35 + 1)) x102000 x102001 x102002 x110000 x110001 x110002)) else (spec_GoodServer.l1 k x20 x21 x22 x33 x34 (wrap64 (x35 + 1)) x102000 x102001 x102002 x110000 x110001 x110002)) else (none)) else (none)) else (spec_GoodServer.l0 k x20 x21 (wrap64 (x22 + 1)) x102000 x102001 x102002)
end
def spec_GoodServer.f (k : Nat) (a0_0 : ByteArray) (a0_1 : ByteArray) (l0_2 : List (S67)) : Option (Bool) := (spec_GoodText.f k a0_0).bind fun t102 => (if t102 = true then (spec_GoodServer.j0 k (decide ((l0_2.length : Int) > 60)) a0_0 a0_1 l0_2) else (spec_GoodServer.j0 k true a0_0 a0_1 l0_2))
set_option maxHeartbeats 8000000 in
set_option maxRecDepth 100000 in
theorem spec_GoodServer.calls (k : Nat) (a0_0 : ByteArray) (a0_1 : ByteArray) (A0_2 : Option Addr) (c0_2 : Nat) (l0_2 : List (S67)) (r : Bool) (w : World) (hr0_2 : Kd.C k67 w A0_2 l0_2.length l0_2) (hc0_2 : l0_2.length ≤ c0_2) (h : spec_GoodServer.f k a0_0 a0_1 l0_2 = some r) :
    Calls Try.prog 28 #[.agg #[.string a0_0, .string a0_1, .slice A0_2 l0_2.length c0_2]] w fun e w' => e = .returned (.bool r) ∧ Below w.heap.size w w' := by
  have hu24 := Try.underlying24
  have hu67 := Try.underlying67
  have HR0_2 := mz hr0_2
  have HC0_2 := mz hc0_2
  clear hr0_2 hc0_2
  have HB := mz (Below.refl w.heap.size w)
  have H : ((spec_GoodText.f k a0_0).bind fun t102 => (if t102 = true then (spec_GoodServer.j0 k (decide ((l0_2.length : Int) > 60)) a0_0 a0_1 l0_2) else (spec_GoodServer.j0 k true a0_0 a0_1 l0_2))) = some r := h
  clear h
  have HC2 := mz H
  clear H
  go_enter Try.func28, Try.ntmps28
  go_upto_region 1 with (first | ((with_reducible refine gate_dst (N := 1) rfl ?_); (try (refine gate_guard (by rfl) ?_; dsimp only)); refine box_event ?hg (N := 1) ?hd (cs := #[.string a0_0, .string a0_1, .slice A0_2 l0_2.length c0_2]) (t := 24) ?hr ?_; (case hd => rfl); (case hg => rfl); (case hr => first | (go_simp; done) | (go_simp; rfl)); intro gb101 hg w3 hbox hb; have n0_ := mz (below_step (by repeat (first | (with_reducible first | exact HB.out | apply below_alloc | apply pw_below_drewN | apply below_drew1) | exact HB.out)) hb); have n1_ := mz (hbox); have n2_ := mz ((by rw [hg]; exact (below_size (by repeat (first | (with_reducible first | exact HB.out | apply below_alloc | apply pw_below_drewN | apply below_drew1) | exact HB.out))) : w.heap.size ≤ gb101)); have n3_ := mz ((by rw [hg]; exact (below_size (by repeat (first | (with_reducible first | exact HB.out | apply below_alloc | apply pw_below_drewN | apply below_drew1) | exact HB.out))) : w.heap.size ≤ gb101)); clear HB; have HB := n0_; have BK101 := n1_; have GW101 := n2_; have GE101 := n3_; clear n0_ n1_ n2_ n3_; clear hb hbox hg))
  repeat (go_quiet (first | ((with_reducible refine gate_dst (N := 1) rfl ?_); (try (refine gate_guard (by rfl) ?_; dsimp only)); refine box_event ?hg (N := 1) ?hd (cs := #[.string a0_0, .string a0_1, .slice A0_2 l0_2.length c0_2]) (t := 24) ?hr ?_; (case hd => rfl); (case hg => rfl); (case hr => first | (go_simp; done) | (go_simp; rfl)); intro gb101 hg w3 hbox hb; have n0_ := mz (below_step (by repeat (first | (with_reducible first | exact HB.out | apply below_alloc | apply pw_below_drewN | apply below_drew1) | exact HB.out)) hb); have n1_ := mz (hbox); have n2_ := mz ((by rw [hg]; exact (below_size (by repeat (first | (with_reducible first | exact HB.out | apply below_alloc | apply pw_below_drewN | apply below_drew1) | exact HB.out))) : w.heap.size ≤ gb101)); have n3_ := mz ((by rw [hg]; exact (below_size (by repeat (first | (with_reducible first | exact HB.out | apply below_alloc | apply pw_below_drewN | apply below_drew1) | exact HB.out))) : w.heap.size ≤ gb101)); clear HB; have HB := n0_; have BK101 := n1_; have GW101 := n2_; have GE101 := n3_; clear n0_ n1_ n2_ n3_; clear hb hbox hg)); go_upto_region 1 with (first | ((with_reducible refine gate_dst (N := 1) rfl ?_); (try (refine gate_guard (by rfl) ?_; dsimp only)); refine box_event ?hg (N := 1) ?hd (cs := #[.string a0_0, .string a0_1, .slice A0_2 l0_2.length c0_2]) (t := 24) ?hr ?_; (case hd => rfl); (case hg => rfl); (case hr => first | (go_simp; done) | (go_simp; rfl)); intro gb101 hg w3 hbox hb; have n0_ := mz (below_step (by repeat (first | (with_reducible first | exact HB.out | apply below_alloc | apply pw_below_drewN | apply below_drew1) | exact HB.out)) hb); have n1_ := mz (hbox); have n2_ := mz ((by rw [hg]; exact (below_size (by repeat (first | (with_reducible first | exact HB.out | apply below_alloc | apply pw_below_drewN | apply below_drew1) | exact HB.out))) : w.heap.size ≤ gb101)); have n3_ := mz ((by rw [hg]; exact (below_size (by repeat (first | (with_reducible first | exact HB.out | apply below_alloc | apply pw_below_drewN | apply below_drew1) | exact HB.out))) : w.heap.size ≤ gb101)); clear HB; have HB := n0_; have BK101 := n1_; have GW101 := n2_; have GE101 := n3_; clear n0_ n1_ n2_ n3_; clear hb hbox hg)))
  (try simp only [Act.put, List.setIfInBounds_toArray, List.set_cons_zero, List.set_cons_succ])
  go_cut [18] (fun v18 wc => ∃ (kq : Nat) (x18_1 : Bool), v18 = .bool x18_1 ∧ Aside0 (spec_GoodServer.j0 kq x18_1 a0_0 a0_1 l0_2 = some r) ∧ Aside0 (kq ≤ k) ∧ Aside0 (wc.heap[gb101]? = some (.cells #[.string a0_0, .string a0_1, (.slice A0_2 l0_2.length c0_2)] 24 (0, 0))) ∧ Aside0 (Below w.heap.size w wc))
  case first =>
    have H := HC2.out
    clear HC2
    replace H := be0_ H
    obtain ⟨t102, A40, H⟩ := H
    replace H : (if t102 = true then (spec_GoodServer.j0 k (decide ((l0_2.length : Int) > 60)) a0_0 a0_1 l0_2) else (spec_GoodServer.j0 k true a0_0 a0_1 l0_2)) = some r := H
    have A4 := mz A40
    clear A40
    by_cases c5 : t102 = true
    · subst c5
      have H1 : (spec_GoodServer.j0 k (decide ((l0_2.length : Int) > 60)) a0_0 a0_1 l0_2) = some r := by rw [if_pos rfl] at H; exact H
      clear H
      have H := H1
      clear H1
      have H' := mz H
      clear H
      have hcz6_0 : w3.cell? ⟨gb101, 0, none⟩ = some (.string a0_0) := (blk_cell BK101.out 0).trans rfl
      have hcz6_1 : w3.cell? ⟨gb101, 1, none⟩ = some (.string a0_1) := (blk_cell BK101.out 1).trans rfl
      have hcz6_2 : w3.cell? ⟨gb101, 2, none⟩ = some (.slice A0_2 l0_2.length c0_2) := (blk_cell BK101.out 2).trans rfl
      have hfz6_0 := blk_frozen BK101.out 0
      have hfz6_1 := blk_frozen BK101.out 1
      have hfz6_2 := blk_frozen BK101.out 2
      go_wp2_with (first | (go_at_call 39; (with_reducible refine (spec_GoodText.calls k a0_0 true _ A4.out).mono ?_); rintro e w' ⟨rfl, ⟨nd, rfl⟩⟩; (try first | exact ⟨rfl, _, World.drewN_drewN _ _ _⟩ | exact ⟨rfl, _, Eq.trans (World.drewN_drewN _ _ _) (congrArg (World.drewN _) (Nat.add_assoc _ _ _))⟩)))
      repeat (go_quiet (first | (go_at_call 39; (with_reducible refine (spec_GoodText.calls k a0_0 true _ A4.out).mono ?_); rintro e w' ⟨rfl, ⟨nd, rfl⟩⟩; (try first | exact ⟨rfl, _, World.drewN_drewN _ _ _⟩ | exact ⟨rfl, _, Eq.trans (World.drewN_drewN _ _ _) (congrArg (World.drewN _) (Nat.add_assoc _ _ _))⟩))); try go_wp2_with (first | (go_at_call 39; (with_reducible refine (spec_GoodText.calls k a0_0 true _ A4.out).mono ?_); rintro e w' ⟨rfl, ⟨nd, rfl⟩⟩; (try first | exact ⟨rfl, _, World.drewN_drewN _ _ _⟩ | exact ⟨rfl, _, Eq.trans (World.drewN_drewN _ _ _) (congrArg (World.drewN _) (Nat.add_assoc _ _ _))⟩))))
      go_meet
      case rel => exact ⟨_, (decide ((l0_2.length : Int) > 60)), (by first | rfl | (simp; done) | (simp [*]; done)), H', ⟨by first | omega | exact Nat.le_refl _⟩, ⟨by (with_reducible repeat (first | refine blk_drewN ?_ _ | refine blk_drew ?_ | refine blk_alloc ?_ _)); exact BK101.out⟩, ⟨by repeat (first | (with_reducible first | exact HB.out | apply below_alloc | apply pw_below_drewN | apply below_drew1 | refine below_set ?_ GE101.out) | exact HB.out)⟩⟩
    · replace c5 := Bool.eq_false_iff.mpr c5
      subst c5
      have H1 : (spec_GoodServer.j0 k true a0_0 a0_1 l0_2) = some r := by rw [if_neg (show ¬ (false = true) by decide)] at H; exact H
      clear H
      have H := H1
      clear H1
      have H' := mz H
      clear H
      have hcz7_0 : w3.cell? ⟨gb101, 0, none⟩ = some (.string a0_0) := (blk_cell BK101.out 0).trans rfl
      have hcz7_1 : w3.cell? ⟨gb101, 1, none⟩ = some (.string a0_1) := (blk_cell BK101.out 1).trans rfl
      have hcz7_2 : w3.cell? ⟨gb101, 2, none⟩ = some (.slice A0_2 l0_2.length c0_2) := (blk_cell BK101.out 2).trans rfl
      have hfz7_0 := blk_frozen BK101.out 0
      have hfz7_1 := blk_frozen BK101.out 1
      have hfz7_2 := blk_frozen BK101.out 2
      go_wp2_with (first | (go_at_call 39; (with_reducible refine (spec_GoodText.calls k a0_0 false _ A4.out).mono ?_); rintro e w' ⟨rfl, ⟨nd, rfl⟩⟩; (try first | exact ⟨rfl, _, World.drewN_drewN _ _ _⟩ | exact ⟨rfl, _, Eq.trans (World.drewN_drewN _ _ _) (congrArg (World.drewN _) (Nat.add_assoc _ _ _))⟩)))
      repeat (go_quiet (first | (go_at_call 39; (with_reducible refine (spec_GoodText.calls k a0_0 false _ A4.out).mono ?_); rintro e w' ⟨rfl, ⟨nd, rfl⟩⟩; (try first | exact ⟨rfl, _, World.drewN_drewN _ _ _⟩ | exact ⟨rfl, _, Eq.trans (World.drewN_drewN _ _ _) (congrArg (World.drewN _) (Nat.add_assoc _ _ _))⟩))); try go_wp2_with (first | (go_at_call 39; (with_reducible refine (spec_GoodText.calls k a0_0 false _ A4.out).mono ?_); rintro e w' ⟨rfl, ⟨nd, rfl⟩⟩; (try first | exact ⟨rfl, _, World.drewN_drewN _ _ _⟩ | exact ⟨rfl, _, Eq.trans (World.drewN_drewN _ _ _) (congrArg (World.drewN _) (Nat.add_assoc _ _ _))⟩))))
      go_meet
      case rel => exact ⟨_, (true), (by first | rfl | (simp; done) | (simp [*]; done)), H', ⟨by first | omega | exact Nat.le_refl _⟩, ⟨by (with_reducible repeat (first | refine blk_drewN ?_ _ | refine blk_drew ?_ | refine blk_alloc ?_ _)); exact BK101.out⟩, ⟨by repeat (first | (with_reducible first | exact HB.out | apply below_alloc | apply pw_below_drewN | apply below_drew1 | refine below_set ?_ GE101.out) | exact HB.out)⟩⟩
  case rest =>
    clear HC2
    try clear c2
    try clear p2
    try clear c5
    try clear hcz6_0
    try clear hcz6_1
    try clear hcz6_2
    try clear hcz7_0
    try clear hcz7_1
    try clear hcz7_2
    try clear hfz6_0
    try clear hfz6_1
    try clear hfz6_2
    try clear hfz7_0
    try clear hfz7_1
    try clear hfz7_2
    obtain ⟨kq, x18_1, rfl, HA, HJ1, BK101, HB⟩ := hcut
    cases kq with
    | zero => exact absurd HA.out (by simp [spec_GoodServer.j0])
    | succ kj1 =>
      have H := HA.out
      clear HA
      simp only [spec_GoodServer.j0] at H
      by_cases c8 : x18_1 = true
      · subst c8
        have H1 : (some false) = some r := by rw [if_pos rfl] at H; exact H
        clear H
        have H := H1
        clear H1
        obtain rfl := Option.some.inj H
        go_wp2
        repeat (go_quiet (fail); try go_wp2)
        go_ret
        exact ⟨by first | rfl | (simp [errW_none, errW_some] <;> rfl) | (simp [*, errW_none, errW_some] <;> rfl), by repeat (first | (with_reducible first | exact HB.out | apply below_alloc | apply pw_below_drewN | apply below_drew1 | refine below_set ?_ GE101.out) | exact HB.out)⟩
      · replace c8 := Bool.eq_false_iff.mpr c8
        subst c8
        have H1 : (spec_GoodServer.l0 kj1 l0_2 (l0_2.length : Int) 0 a0_0 a0_1 l0_2) = some r := by rw [if_neg (show ¬ (false = true) by decide)] at H; exact H
        clear H
        have H := H1
        clear H1
        have H' := mz H
        clear H
        have hcz9_0 : wc.cell? ⟨gb101, 0, none⟩ = some (.string a0_0) := (blk_cell BK101.out 0).trans rfl
        have hcz9_1 : wc.cell? ⟨gb101, 1, none⟩ = some (.string a0_1) := (blk_cell BK101.out 1).trans rfl
        have hcz9_2 : wc.cell? ⟨gb101, 2, none⟩ = some (.slice A0_2 l0_2.length c0_2) := (blk_cell BK101.out 2).trans rfl
        have hfz9_0 := blk_frozen BK101.out 0
        have hfz9_1 := blk_frozen BK101.out 1
        have hfz9_2 := blk_frozen BK101.out 2
        go_wp2
        repeat (go_quiet (fail); try go_wp2)
        go_loopg [22] kj1 (fun kq v22 w' => ∃ (x22_2 : Int), v22 = .int .i64 x22_2 ∧ Aside0 (spec_GoodServer.l0 kq l0_2 (l0_2.length : Int) x22_2 a0_0 a0_1 l0_2 = some r) ∧ Aside0 (kq ≤ kj1) ∧ Aside0 (w'.heap[gb101]? = some (.cells #[.string a0_0, .string a0_1, (.slice A0_2 l0_2.length c0_2)] 24 (0, 0))) ∧ Aside0 (Below w.heap.size w w'))
        case atStart => exact ⟨(0), (by first | rfl | (simp; done) | (simp [*]; done)), H', ⟨Nat.le_refl _⟩, ⟨by (with_reducible repeat (first | refine blk_drewN ?_ _ | refine blk_drew ?_ | refine blk_alloc ?_ _)); exact BK101.out⟩, ⟨by repeat (first | (with_reducible first | exact HB.out | apply below_alloc | apply pw_below_drewN | apply below_drew1 | refine below_set ?_ GE101.out) | exact HB.out)⟩⟩
        case round =>
          clear H'
          try clear c2
          try clear p2
          try clear c5
          try clear c8
          try clear hcz6_0
          try clear hcz6_1
          try clear hcz6_2
          try clear hcz7_0
          try clear hcz7_1
          try clear hcz7_2
          try clear hcz9_0
          try clear hcz9_1
          try clear hcz9_2
          try clear hfz6_0
          try clear hfz6_1
          try clear hfz6_2
          try clear hfz7_0
          try clear hfz7_1
          try clear hfz7_2
          try clear hfz9_0
          try clear hfz9_1
          try clear hfz9_2
          try clear p2
          obtain ⟨x22_2, rfl, HA, HK2, BK101, HB⟩ := hrel
          cases gk with
          | zero => exact absurd HA.out (by simp [spec_GoodServer.l0])
          | succ k2 =>
            have H := HA.out
            clear HA
            simp only [spec_GoodServer.l0] at H
            by_cases c10 : x22_2 < (l0_2.length : Int)
            · rw [if_pos c10] at H
              have c10b0 : decide (x22_2 < (l0_2.length : Int)) = true := decide_eq_true c10
              clear c10
              by_cases c11 : 0 ≤ x22_2
              · rw [if_pos c11] at H
                have c11b0 : decide (0 ≤ x22_2) = true := decide_eq_true c11
                clear c11
                by_cases c12 : x22_2 < (l0_2.length : Int)
                · rw [if_pos c12] at H
                  have c12b0 : decide (x22_2 < (l0_2.length : Int)) = true := decide_eq_true c12
                  clear c12
                  replace H := be0_ H
                  obtain ⟨t110, A130, H⟩ := H
                  replace H : (if t110 = true then (if x22_2 ≤ (l0_2.length : Int) then ((some (l0_2.take (x22_2 : Int).toNat : List (S67))).bind fun y111 => (spec_GoodServer.l1 k2 l0_2 (l0_2.length : Int) x22_2 y111 (y111.length : Int) 0 a0_0 a0_1 l0_2 ((rd_T67 l0_2 x22_2).f0) ((rd_T67 l0_2 x22_2).f1) ((rd_T67 l0_2 x22_2).f2))) else (none)) else (some false)) = some r := H
                  have A13 := mz A130
                  clear A130
                  by_cases c14 : t110 = true
                  · subst c14
                    have H1 : (if x22_2 ≤ (l0_2.length : Int) then ((some (l0_2.take (x22_2 : Int).toNat : List (S67))).bind fun y111 => (spec_GoodServer.l1 k2 l0_2 (l0_2.length : Int) x22_2 y111 (y111.length : Int) 0 a0_0 a0_1 l0_2 ((rd_T67 l0_2 x22_2).f0) ((rd_T67 l0_2 x22_2).f1) ((rd_T67 l0_2 x22_2).f2))) else (none)) = some r := by rw [if_pos rfl] at H; exact H
                    clear H
                    have H := H1
                    clear H1
                    have c15b0 := eq_true (of_decide_eq_true (by first | (with_reducible assumption) | assumption) : 0 ≤ x22_2)
                    by_cases c16 : x22_2 ≤ (l0_2.length : Int)
                    · rw [if_pos c16] at H
                      have c16b0 := eq_true c16
                      have c16b1 : decide (x22_2 ≤ (l0_2.length : Int)) = true := decide_eq_true c16
                      clear c16
                      obtain ⟨y111, hy111⟩ : ∃ y_ : List (S67), y_ = (l0_2.take (x22_2 : Int).toNat) := ⟨_, rfl⟩
                      replace H : (spec_GoodServer.l1 k2 l0_2 (l0_2.length : Int) x22_2 y111 (y111.length : Int) 0 a0_0 a0_1 l0_2 ((rd_T67 l0_2 x22_2).f0) ((rd_T67 l0_2 x22_2).f1) ((rd_T67 l0_2 x22_2).f2)) = some r := by first | (rw [hy111]; with_reducible exact H) | (have H2_ := (Option.bind_some _ _).symm.trans H; rw [hy111]; with_reducible exact H2_) | (have H2_ := (Option.bind_some _ _).symm.trans H; with_reducible exact H2_) | with_reducible exact H | (rw [hy111]; exact H) | exact H
                      have Ny111 := mz hy111
                      clear hy111
                      have H' := mz H
                      clear H
                      have p108 : 0 ≤ (x22_2 : Int) := of_decide_eq_true (by first | (with_reducible assumption) | assumption)
                      have q108 : x22_2 < (l0_2.length : Int) := of_decide_eq_true (by first | (with_reducible assumption) | assumption)
                      obtain ⟨ad108, A108_2, c108_2, e108, hx108_0, hx108_1, hx108_2, hl108_2, hi108_2⟩ := at_T67 HR0_2.out x22_2 p108 q108
                      cases e108
                      replace hx108_0 := bc_ HB.out hx108_0
                      replace hx108_1 := bc_ HB.out hx108_1
                      replace hx108_2 := bc_ HB.out hx108_2
                      have HR108_2 := mz hi108_2
                      have HC108_2 := mz hl108_2
                      clear hi108_2 hl108_2
                      replace p108 := eq_true p108
                      replace q108 := eq_true q108
                      go_wp2_with (first | ((with_reducible refine gate_dst (N := 4) rfl ?_); (try (refine gate_guard (by rfl) ?_; dsimp only)); refine box_event ?hg (N := 4) ?hd (cs := #[.int .i64 0, .int .i64 0, .slice none 0 0]) (t := 67) ?hr ?_; (case hd => rfl); (case hg => rfl); (case hr => first | (go_simp; done) | (go_simp; rfl)); intro gb109 hg w17 hbox hb; have n0_ := mz (blk_below (g := gb101) (o := .cells #[.string a0_0, .string a0_1, .slice (some ad108) l0_2.length c0_2] 24 (0, 0)) (by (with_reducible repeat (first | refine blk_drewN ?_ _ | refine blk_drew ?_ | refine blk_alloc ?_ _)); exact BK101.out) hb); have n1_ := mz (below_step (by repeat (first | (with_reducible first | exact HB.out | apply below_alloc | apply pw_below_drewN | apply below_drew1 | refine below_set ?_ GE101.out) | exact HB.out)) hb); have n2_ := mz (hbox); have n3_ := mz ((by rw [hg]; exact (below_size (by repeat (first | (with_reducible first | exact HB.out | apply below_alloc | apply pw_below_drewN | apply below_drew1 | refine below_set ?_ GE101.out) | exact HB.out))) : w.heap.size ≤ gb109)); have n4_ := mz ((by rw [hg]; exact (below_size (by repeat (first | (with_reducible first | exact HB.out | apply below_alloc | apply pw_below_drewN | apply below_drew1 | refine below_set ?_ GE101.out) | exact HB.out))) : w.heap.size ≤ gb109)); have n5_ := mz ((by rw [hg]; exact Nat.ne_of_lt (blk_lt (g := gb101) (o := .cells #[.string a0_0, .string a0_1, .slice (some ad108) l0_2.length c0_2] 24 (0, 0)) (by (with_reducible repeat (first | refine blk_drewN ?_ _ | refine blk_drew ?_ | refine blk_alloc ?_ _)); exact BK101.out)) : gb101 ≠ gb109)); have n6_ := mz ((by rw [hg]; exact Nat.ne_of_gt (blk_lt (g := gb101) (o := .cells #[.string a0_0, .string a0_1, .slice (some ad108) l0_2.length c0_2] 24 (0, 0)) (by (with_reducible repeat (first | refine blk_drewN ?_ _ | refine blk_drew ?_ | refine blk_alloc ?_ _)); exact BK101.out)) : gb109 ≠ gb101)); clear BK101; clear HB; have BK101 := n0_; have HB := n1_; have BK109 := n2_; have GW109 := n3_; have GE109 := n4_; have NB101_109 := n5_; have NB109_101 := n6_; clear n0_ n1_ n2_ n3_ n4_ n5_ n6_; clear hb hbox hg; have hnb18 := NB109_101.out; have hnc18 := NB101_109.out; have hcz19_0 : w17.cell? ⟨gb109, 0, none⟩ = some (.int .i64 0) := (blk_cell BK109.out 0).trans rfl; have hcz19_1 : w17.cell? ⟨gb109, 1, none⟩ = some (.int .i64 0) := (blk_cell BK109.out 1).trans rfl; have hcz19_2 : w17.cell? ⟨gb109, 2, none⟩ = some (.slice none 0 0) := (blk_cell BK109.out 2).trans rfl; have hfz19_0 := blk_frozen BK109.out 0; have hfz19_1 := blk_frozen BK109.out 1; have hfz19_2 := blk_frozen BK109.out 2) | (go_at_call 50; (with_reducible refine (spec_l15Entry.calls k2 ((rd_T67 l0_2 x22_2).f0) ((rd_T67 l0_2 x22_2).f1) _ _ ((rd_T67 l0_2 x22_2).f2) true _ ?side1 ?side2 A13.out).mono ?_); (case side1 => exact Kd.C_below HR108_2.out (by repeat (first | (with_reducible first | exact HB.out | apply below_alloc | apply pw_below_drewN | apply below_drew1 | refine below_set ?_ GE101.out | refine below_set ?_ GE109.out) | exact HB.out))); (case side2 => exact HC108_2.out); rintro e w20 ⟨rfl, hb⟩; have n0_ := mz (blk_below (g := gb101) (o := .cells #[.string a0_0, .string a0_1, .slice (some ad108) l0_2.length c0_2] 24 (0, 0)) (by (with_reducible repeat (first | refine blk_drewN ?_ _ | refine blk_drew ?_ | refine blk_alloc ?_ _)); refine blk_far ?_ NB101_109.out _; (with_reducible repeat (first | refine blk_drewN ?_ _ | refine blk_drew ?_ | refine blk_alloc ?_ _)); refine blk_far ?_ NB101_109.out _; (with_reducible repeat (first | refine blk_drewN ?_ _ | refine blk_drew ?_ | refine blk_alloc ?_ _)); refine blk_far ?_ NB101_109.out _; (with_reducible repeat (first | refine blk_drewN ?_ _ | refine blk_drew ?_ | refine blk_alloc ?_ _)); exact BK101.out) hb); have n1_ := mz (blk_below (g := gb109) (o := .cells #[.int .i64 ((rd_T67 l0_2 x22_2).f0), .int .i64 ((rd_T67 l0_2 x22_2).f1), .slice A108_2 ((rd_T67 l0_2 x22_2).f2).length c108_2] 67 (0, 0)) (by (with_reducible repeat (first | refine blk_drewN ?_ _ | refine blk_drew ?_ | refine blk_alloc ?_ _)); refine blk_put (cs := #[.int .i64 ((rd_T67 l0_2 x22_2).f0), .int .i64 ((rd_T67 l0_2 x22_2).f1), .slice none 0 0]) ?_ 2 _ rfl; (with_reducible repeat (first | refine blk_drewN ?_ _ | refine blk_drew ?_ | refine blk_alloc ?_ _)); refine blk_put (cs := #[.int .i64 ((rd_T67 l0_2 x22_2).f0), .int .i64 0, .slice none 0 0]) ?_ 1 _ rfl; (with_reducible repeat (first | refine blk_drewN ?_ _ | refine blk_drew ?_ | refine blk_alloc ?_ _)); refine blk_put (cs := #[.int .i64 0, .int .i64 0, .slice none 0 0]) ?_ 0 _ rfl; (with_reducible repeat (first | refine blk_drewN ?_ _ | refine blk_drew ?_ | refine blk_alloc ?_ _)); exact BK109.out) hb); have n2_ := mz (below_step (by repeat (first | (with_reducible first | exact HB.out | apply below_alloc | apply pw_below_drewN | apply below_drew1 | refine below_set ?_ GE101.out | refine below_set ?_ GE109.out) | exact HB.out)) hb); clear BK101; clear BK109; clear HB; have BK101 := n0_; have BK109 := n1_; have HB := n2_; clear n0_ n1_ n2_; (try clear hb); (try clear hb2); (try clear hk); (try clear hi); have hcz21_0 : w20.cell? ⟨gb101, 0, none⟩ = some (.string a0_0) := (blk_cell BK101.out 0).trans rfl; have hcz21_1 : w20.cell? ⟨gb101, 1, none⟩ = some (.string a0_1) := (blk_cell BK101.out 1).trans rfl; have hcz21_2 : w20.cell? ⟨gb101, 2, none⟩ = some (.slice (some ad108) l0_2.length c0_2) := (blk_cell BK101.out 2).trans rfl; have hfz21_0 := blk_frozen BK101.out 0; have hfz21_1 := blk_frozen BK101.out 1; have hfz21_2 := blk_frozen BK101.out 2; have q22 : (x22_2 : Int) ≤ ((l0_2.length : Int) : Int) := of_decide_eq_true (by first | (with_reducible assumption) | assumption); obtain ⟨i022, hi022, _, hsz22, _⟩ := info_parts info67; have hroom22 : l0_2.length ≤ c0_2 := HC0_2.out; have hC22 : Kd.C k67 _ (some ad108) l0_2.length l0_2 := HR0_2.out; have hcut22 := cut_to (P := Try.prog) 22 67 .i64 Try.underlying22 hi022 (some ad108) l0_2.length c0_2 x22_2 (of_decide_eq_true (by first | (with_reducible assumption) | assumption)) q22 hroom22; have hr22 := Kd.C_take (m := (x22_2 : Int).toNat) hC22 (by omega); have hy22 : y111.length = (x22_2 : Int).toNat := (by rw [Ny111.out, List.length_take]; omega); rw [← Ny111.out] at hr22; rw [← hy22] at hcut22; have HR114 := mz hr22; have HC114 := mz (show y111.length ≤ c0_2 from by omega); clear hr22 hC22 hroom22 hi022 hsz22; have KY22 := mz hy22; clear hy22; replace q22 := eq_true q22))
                      repeat (go_quiet (first | ((with_reducible refine gate_dst (N := 4) rfl ?_); (try (refine gate_guard (by rfl) ?_; dsimp only)); refine box_event ?hg (N := 4) ?hd (cs := #[.int .i64 0, .int .i64 0, .slice none 0 0]) (t := 67) ?hr ?_; (case hd => rfl); (case hg => rfl); (case hr => first | (go_simp; done) | (go_simp; rfl)); intro gb109 hg w17 hbox hb; have n0_ := mz (blk_below (g := gb101) (o := .cells #[.string a0_0, .string a0_1, .slice (some ad108) l0_2.length c0_2] 24 (0, 0)) (by (with_reducible repeat (first | refine blk_drewN ?_ _ | refine blk_drew ?_ | refine blk_alloc ?_ _)); exact BK101.out) hb); have n1_ := mz (below_step (by repeat (first | (with_reducible first | exact HB.out | apply below_alloc | apply pw_below_drewN | apply below_drew1 | refine below_set ?_ GE101.out) | exact HB.out)) hb); have n2_ := mz (hbox); have n3_ := mz ((by rw [hg]; exact (below_size (by repeat (first | (with_reducible first | exact HB.out | apply below_alloc | apply pw_below_drewN | apply below_drew1 | refine below_set ?_ GE101.out) | exact HB.out))) : w.heap.size ≤ gb109)); have n4_ := mz ((by rw [hg]; exact (below_size (by repeat (first | (with_reducible first | exact HB.out | apply below_alloc | apply pw_below_drewN | apply below_drew1 | refine below_set ?_ GE101.out) | exact HB.out))) : w.heap.size ≤ gb109)); have n5_ := mz ((by rw [hg]; exact Nat.ne_of_lt (blk_lt (g := gb101) (o := .cells #[.string a0_0, .string a0_1, .slice (some ad108) l0_2.length c0_2] 24 (0, 0)) (by (with_reducible repeat (first | refine blk_drewN ?_ _ | refine blk_drew ?_ | refine blk_alloc ?_ _)); exact BK101.out)) : gb101 ≠ gb109)); have n6_ := mz ((by rw [hg]; exact Nat.ne_of_gt (blk_lt (g := gb101) (o := .cells #[.string a0_0, .string a0_1, .slice (some ad108) l0_2.length c0_2] 24 (0, 0)) (by (with_reducible repeat (first | refine blk_drewN ?_ _ | refine blk_drew ?_ | refine blk_alloc ?_ _)); exact BK101.out)) : gb109 ≠ gb101)); clear BK101; clear HB; have BK101 := n0_; have HB := n1_; have BK109 := n2_; have GW109 := n3_; have GE109 := n4_; have NB101_109 := n5_; have NB109_101 := n6_; clear n0_ n1_ n2_ n3_ n4_ n5_ n6_; clear hb hbox hg; have hnb18 := NB109_101.out; have hnc18 := NB101_109.out; have hcz19_0 : w17.cell? ⟨gb109, 0, none⟩ = some (.int .i64 0) := (blk_cell BK109.out 0).trans rfl; have hcz19_1 : w17.cell? ⟨gb109, 1, none⟩ = some (.int .i64 0) := (blk_cell BK109.out 1).trans rfl; have hcz19_2 : w17.cell? ⟨gb109, 2, none⟩ = some (.slice none 0 0) := (blk_cell BK109.out 2).trans rfl; have hfz19_0 := blk_frozen BK109.out 0; have hfz19_1 := blk_frozen BK109.out 1; have hfz19_2 := blk_frozen BK109.out 2) | (go_at_call 50; (with_reducible refine (spec_l15Entry.calls k2 ((rd_T67 l0_2 x22_2).f0) ((rd_T67 l0_2 x22_2).f1) _ _ ((rd_T67 l0_2 x22_2).f2) true _ ?side1 ?side2 A13.out).mono ?_); (case side1 => exact Kd.C_below HR108_2.out (by repeat (first | (with_reducible first | exact HB.out | apply below_alloc | apply pw_below_drewN | apply below_drew1 | refine below_set ?_ GE101.out | refine below_set ?_ GE109.out) | exact HB.out))); (case side2 => exact HC108_2.out); rintro e w20 ⟨rfl, hb⟩; have n0_ := mz (blk_below (g := gb101) (o := .cells #[.string a0_0, .string a0_1, .slice (some ad108) l0_2.length c0_2] 24 (0, 0)) (by (with_reducible repeat (first | refine blk_drewN ?_ _ | refine blk_drew ?_ | refine blk_alloc ?_ _)); refine blk_far ?_ NB101_109.out _; (with_reducible repeat (first | refine blk_drewN ?_ _ | refine blk_drew ?_ | refine blk_alloc ?_ _)); refine blk_far ?_ NB101_109.out _; (with_reducible repeat (first | refine blk_drewN ?_ _ | refine blk_drew ?_ | refine blk_alloc ?_ _)); refine blk_far ?_ NB101_109.out _; (with_reducible repeat (first | refine blk_drewN ?_ _ | refine blk_drew ?_ | refine blk_alloc ?_ _)); exact BK101.out) hb); have n1_ := mz (blk_below (g := gb109) (o := .cells #[.int .i64 ((rd_T67 l0_2 x22_2).f0), .int .i64 ((rd_T67 l0_2 x22_2).f1), .slice A108_2 ((rd_T67 l0_2 x22_2).f2).length c108_2] 67 (0, 0)) (by (with_reducible repeat (first | refine blk_drewN ?_ _ | refine blk_drew ?_ | refine blk_alloc ?_ _)); refine blk_put (cs := #[.int .i64 ((rd_T67 l0_2 x22_2).f0), .int .i64 ((rd_T67 l0_2 x22_2).f1), .slice none 0 0]) ?_ 2 _ rfl; (with_reducible repeat (first | refine blk_drewN ?_ _ | refine blk_drew ?_ | refine blk_alloc ?_ _)); refine blk_put (cs := #[.int .i64 ((rd_T67 l0_2 x22_2).f0), .int .i64 0, .slice none 0 0]) ?_ 1 _ rfl; (with_reducible repeat (first | refine blk_drewN ?_ _ | refine blk_drew ?_ | refine blk_alloc ?_ _)); refine blk_put (cs := #[.int .i64 0, .int .i64 0, .slice none 0 0]) ?_ 0 _ rfl; (with_reducible repeat (first | refine blk_drewN ?_ _ | refine blk_drew ?_ | refine blk_alloc ?_ _)); exact BK109.out) hb); have n2_ := mz (below_step (by repeat (first | (with_reducible first | exact HB.out | apply below_alloc | apply pw_below_drewN | apply below_drew1 | refine below_set ?_ GE101.out | refine below_set ?_ GE109.out) | exact HB.out)) hb); clear BK101; clear BK109; clear HB; have BK101 := n0_; have BK109 := n1_; have HB := n2_; clear n0_ n1_ n2_; (try clear hb); (try clear hb2); (try clear hk); (try clear hi); have hcz21_0 : w20.cell? ⟨gb101, 0, none⟩ = some (.string a0_0) := (blk_cell BK101.out 0).trans rfl; have hcz21_1 : w20.cell? ⟨gb101, 1, none⟩ = some (.string a0_1) := (blk_cell BK101.out 1).trans rfl; have hcz21_2 : w20.cell? ⟨gb101, 2, none⟩ = some (.slice (some ad108) l0_2.length c0_2) := (blk_cell BK101.out 2).trans rfl; have hfz21_0 := blk_frozen BK101.out 0; have hfz21_1 := blk_frozen BK101.out 1; have hfz21_2 := blk_frozen BK101.out 2; have q22 : (x22_2 : Int) ≤ ((l0_2.length : Int) : Int) := of_decide_eq_true (by first | (with_reducible assumption) | assumption); obtain ⟨i022, hi022, _, hsz22, _⟩ := info_parts info67; have hroom22 : l0_2.length ≤ c0_2 := HC0_2.out; have hC22 : Kd.C k67 _ (some ad108) l0_2.length l0_2 := HR0_2.out; have hcut22 := cut_to (P := Try.prog) 22 67 .i64 Try.underlying22 hi022 (some ad108) l0_2.length c0_2 x22_2 (of_decide_eq_true (by first | (with_reducible assumption) | assumption)) q22 hroom22; have hr22 := Kd.C_take (m := (x22_2 : Int).toNat) hC22 (by omega); have hy22 : y111.length = (x22_2 : Int).toNat := (by rw [Ny111.out, List.length_take]; omega); rw [← Ny111.out] at hr22; rw [← hy22] at hcut22; have HR114 := mz hr22; have HC114 := mz (show y111.length ≤ c0_2 from by omega); clear hr22 hC22 hroom22 hi022 hsz22; have KY22 := mz hy22; clear hy22; replace q22 := eq_true q22)); try go_wp2_with (first | ((with_reducible refine gate_dst (N := 4) rfl ?_); (try (refine gate_guard (by rfl) ?_; dsimp only)); refine box_event ?hg (N := 4) ?hd (cs := #[.int .i64 0, .int .i64 0, .slice none 0 0]) (t := 67) ?hr ?_; (case hd => rfl); (case hg => rfl); (case hr => first | (go_simp; done) | (go_simp; rfl)); intro gb109 hg w17 hbox hb; have n0_ := mz (blk_below (g := gb101) (o := .cells #[.string a0_0, .string a0_1, .slice (some ad108) l0_2.length c0_2] 24 (0, 0)) (by (with_reducible repeat (first | refine blk_drewN ?_ _ | refine blk_drew ?_ | refine blk_alloc ?_ _)); exact BK101.out) hb); have n1_ := mz (below_step (by repeat (first | (with_reducible first | exact HB.out | apply below_alloc | apply pw_below_drewN | apply below_drew1 | refine below_set ?_ GE101.out) | exact HB.out)) hb); have n2_ := mz (hbox); have n3_ := mz ((by rw [hg]; exact (below_size (by repeat (first | (with_reducible first | exact HB.out | apply below_alloc | apply pw_below_drewN | apply below_drew1 | refine below_set ?_ GE101.out) | exact HB.out))) : w.heap.size ≤ gb109)); have n4_ := mz ((by rw [hg]; exact (below_size (by repeat (first | (with_reducible first | exact HB.out | apply below_alloc | apply pw_below_drewN | apply below_drew1 | refine below_set ?_ GE101.out) | exact HB.out))) : w.heap.size ≤ gb109)); have n5_ := mz ((by rw [hg]; exact Nat.ne_of_lt (blk_lt (g := gb101) (o := .cells #[.string a0_0, .string a0_1, .slice (some ad108) l0_2.length c0_2] 24 (0, 0)) (by (with_reducible repeat (first | refine blk_drewN ?_ _ | refine blk_drew ?_ | refine blk_alloc ?_ _)); exact BK101.out)) : gb101 ≠ gb109)); have n6_ := mz ((by rw [hg]; exact Nat.ne_of_gt (blk_lt (g := gb101) (o := .cells #[.string a0_0, .string a0_1, .slice (some ad108) l0_2.length c0_2] 24 (0, 0)) (by (with_reducible repeat (first | refine blk_drewN ?_ _ | refine blk_drew ?_ | refine blk_alloc ?_ _)); exact BK101.out)) : gb109 ≠ gb101)); clear BK101; clear HB; have BK101 := n0_; have HB := n1_; have BK109 := n2_; have GW109 := n3_; have GE109 := n4_; have NB101_109 := n5_; have NB109_101 := n6_; clear n0_ n1_ n2_ n3_ n4_ n5_ n6_; clear hb hbox hg; have hnb18 := NB109_101.out; have hnc18 := NB101_109.out; have hcz19_0 : w17.cell? ⟨gb109, 0, none⟩ = some (.int .i64 0) := (blk_cell BK109.out 0).trans rfl; have hcz19_1 : w17.cell? ⟨gb109, 1, none⟩ = some (.int .i64 0) := (blk_cell BK109.out 1).trans rfl; have hcz19_2 : w17.cell? ⟨gb109, 2, none⟩ = some (.slice none 0 0) := (blk_cell BK109.out 2).trans rfl; have hfz19_0 := blk_frozen BK109.out 0; have hfz19_1 := blk_frozen BK109.out 1; have hfz19_2 := blk_frozen BK109.out 2) | (go_at_call 50; (with_reducible refine (spec_l15Entry.calls k2 ((rd_T67 l0_2 x22_2).f0) ((rd_T67 l0_2 x22_2).f1) _ _ ((rd_T67 l0_2 x22_2).f2) true _ ?side1 ?side2 A13.out).mono ?_); (case side1 => exact Kd.C_below HR108_2.out (by repeat (first | (with_reducible first | exact HB.out | apply below_alloc | apply pw_below_drewN | apply below_drew1 | refine below_set ?_ GE101.out | refine below_set ?_ GE109.out) | exact HB.out))); (case side2 => exact HC108_2.out); rintro e w20 ⟨rfl, hb⟩; have n0_ := mz (blk_below (g := gb101) (o := .cells #[.string a0_0, .string a0_1, .slice (some ad108) l0_2.length c0_2] 24 (0, 0)) (by (with_reducible repeat (first | refine blk_drewN ?_ _ | refine blk_drew ?_ | refine blk_alloc ?_ _)); refine blk_far ?_ NB101_109.out _; (with_reducible repeat (first | refine blk_drewN ?_ _ | refine blk_drew ?_ | refine blk_alloc ?_ _)); refine blk_far ?_ NB101_109.out _; (with_reducible repeat (first | refine blk_drewN ?_ _ | refine blk_drew ?_ | refine blk_alloc ?_ _)); refine blk_far ?_ NB101_109.out _; (with_reducible repeat (first | refine blk_drewN ?_ _ | refine blk_drew ?_ | refine blk_alloc ?_ _)); exact BK101.out) hb); have n1_ := mz (blk_below (g := gb109) (o := .cells #[.int .i64 ((rd_T67 l0_2 x22_2).f0), .int .i64 ((rd_T67 l0_2 x22_2).f1), .slice A108_2 ((rd_T67 l0_2 x22_2).f2).length c108_2] 67 (0, 0)) (by (with_reducible repeat (first | refine blk_drewN ?_ _ | refine blk_drew ?_ | refine blk_alloc ?_ _)); refine blk_put (cs := #[.int .i64 ((rd_T67 l0_2 x22_2).f0), .int .i64 ((rd_T67 l0_2 x22_2).f1), .slice none 0 0]) ?_ 2 _ rfl; (with_reducible repeat (first | refine blk_drewN ?_ _ | refine blk_drew ?_ | refine blk_alloc ?_ _)); refine blk_put (cs := #[.int .i64 ((rd_T67 l0_2 x22_2).f0), .int .i64 0, .slice none 0 0]) ?_ 1 _ rfl; (with_reducible repeat (first | refine blk_drewN ?_ _ | refine blk_drew ?_ | refine blk_alloc ?_ _)); refine blk_put (cs := #[.int .i64 0, .int .i64 0, .slice none 0 0]) ?_ 0 _ rfl; (with_reducible repeat (first | refine blk_drewN ?_ _ | refine blk_drew ?_ | refine blk_alloc ?_ _)); exact BK109.out) hb); have n2_ := mz (below_step (by repeat (first | (with_reducible first | exact HB.out | apply below_alloc | apply pw_below_drewN | apply below_drew1 | refine below_set ?_ GE101.out | refine below_set ?_ GE109.out) | exact HB.out)) hb); clear BK101; clear BK109; clear HB; have BK101 := n0_; have BK109 := n1_; have HB := n2_; clear n0_ n1_ n2_; (try clear hb); (try clear hb2); (try clear hk); (try clear hi); have hcz21_0 : w20.cell? ⟨gb101, 0, none⟩ = some (.string a0_0) := (blk_cell BK101.out 0).trans rfl; have hcz21_1 : w20.cell? ⟨gb101, 1, none⟩ = some (.string a0_1) := (blk_cell BK101.out 1).trans rfl; have hcz21_2 : w20.cell? ⟨gb101, 2, none⟩ = some (.slice (some ad108) l0_2.length c0_2) := (blk_cell BK101.out 2).trans rfl; have hfz21_0 := blk_frozen BK101.out 0; have hfz21_1 := blk_frozen BK101.out 1; have hfz21_2 := blk_frozen BK101.out 2; have q22 : (x22_2 : Int) ≤ ((l0_2.length : Int) : Int) := of_decide_eq_true (by first | (with_reducible assumption) | assumption); obtain ⟨i022, hi022, _, hsz22, _⟩ := info_parts info67; have hroom22 : l0_2.length ≤ c0_2 := HC0_2.out; have hC22 : Kd.C k67 _ (some ad108) l0_2.length l0_2 := HR0_2.out; have hcut22 := cut_to (P := Try.prog) 22 67 .i64 Try.underlying22 hi022 (some ad108) l0_2.length c0_2 x22_2 (of_decide_eq_true (by first | (with_reducible assumption) | assumption)) q22 hroom22; have hr22 := Kd.C_take (m := (x22_2 : Int).toNat) hC22 (by omega); have hy22 : y111.length = (x22_2 : Int).toNat := (by rw [Ny111.out, List.length_take]; omega); rw [← Ny111.out] at hr22; rw [← hy22] at hcut22; have HR114 := mz hr22; have HC114 := mz (show y111.length ≤ c0_2 from by omega); clear hr22 hC22 hroom22 hi022 hsz22; have KY22 := mz hy22; clear hy22; replace q22 := eq_true q22)))
                      go_loopg [35] k2 (fun kq v35 w' => ∃ (x35_3 : Int), v35 = .int .i64 x35_3 ∧ Aside0 (spec_GoodServer.l1 kq l0_2 (l0_2.length : Int) x22_2 y111 (y111.length : Int) x35_3 a0_0 a0_1 l0_2 ((rd_T67 l0_2 x22_2).f0) ((rd_T67 l0_2 x22_2).f1) ((rd_T67 l0_2 x22_2).f2) = some r) ∧ Aside0 (kq ≤ k2) ∧ Aside0 (w'.heap[gb101]? = some (.cells #[.string a0_0, .string a0_1, (.slice (some ad108) l0_2.length c0_2)] 24 (0, 0))) ∧ Aside0 (w'.heap[gb109]? = some (.cells #[.int .i64 ((rd_T67 l0_2 x22_2).f0), .int .i64 ((rd_T67 l0_2 x22_2).f1), (.slice A108_2 ((rd_T67 l0_2 x22_2).f2).length c108_2)] 67 (0, 0))) ∧ Aside0 (Below w.heap.size w w'))
                      case atStart => exact ⟨(0), (by first | rfl | (simp; done) | (simp [*]; done)), H', ⟨Nat.le_refl _⟩, ⟨by (with_reducible repeat (first | refine blk_drewN ?_ _ | refine blk_drew ?_ | refine blk_alloc ?_ _)); exact BK101.out⟩, ⟨by (with_reducible repeat (first | refine blk_drewN ?_ _ | refine blk_drew ?_ | refine blk_alloc ?_ _)); exact BK109.out⟩, ⟨by repeat (first | (with_reducible first | exact HB.out | apply below_alloc | apply pw_below_drewN | apply below_drew1 | refine below_set ?_ GE101.out | refine below_set ?_ GE109.out) | exact HB.out)⟩⟩
                      case round =>
                        clear H'
                        try clear c1
                        try clear p1
                        try clear q1
                        try clear hx1
                        try clear c2
                        try clear p2
                        try clear q2
                        try clear c5
                        try clear c8
                        try clear c10
                        try clear c10b0
                        try clear p10
                        try clear q10
                        try clear hx10
                        try clear c11
                        try clear c11b0
                        try clear c12
                        try clear c12b0
                        try clear c14
                        try clear c15
                        try clear c15b0
                        try clear c16
                        try clear c16b0
                        try clear c16b1
                        try clear c18
                        try clear q22
                        try clear hcz19_0
                        try clear hcz19_1
                        try clear hcz19_2
                        try clear hcz21_0
                        try clear hcz21_1
                        try clear hcz21_2
                        try clear hcz6_0
                        try clear hcz6_1
                        try clear hcz6_2
                        try clear hcz7_0
                        try clear hcz7_1
                        try clear hcz7_2
                        try clear hcz9_0
                        try clear hcz9_1
                        try clear hcz9_2
                        try clear hfz19_0
                        try clear hfz19_1
                        try clear hfz19_2
                        try clear hfz21_0
                        try clear hfz21_1
                        try clear hfz21_2
                        try clear hfz6_0
                        try clear hfz6_1
                        try clear hfz6_2
                        try clear hfz7_0
                        try clear hfz7_1
                        try clear hfz7_2
                        try clear hfz9_0
                        try clear hfz9_1
                        try clear hfz9_2
                        try clear hx108_0
                        try clear hx108_1
                        try clear hx108_2
                        try clear p108
                        try clear p2
                        try clear q108
                        try clear q22
                        obtain ⟨x35_3, rfl, HA, HK3, BK101, BK109, HB⟩ := hrel
                        cases gk with
                        | zero => exact absurd HA.out (by simp [spec_GoodServer.l1])
                        | succ k3 =>
                          have H := HA.out
                          clear HA
                          simp only [spec_GoodServer.l1] at H
                          by_cases c23 : x35_3 < (y111.length : Int)
                          · rw [if_pos c23] at H
                            have c23b0 : decide (x35_3 < (y111.length : Int)) = true := decide_eq_true c23
                            clear c23
                            by_cases c24 : 0 ≤ x35_3
                            · rw [if_pos c24] at H
                              have c24b0 : decide (0 ≤ x35_3) = true := decide_eq_true c24
                              clear c24
                              by_cases c25 : x35_3 < (y111.length : Int)
                              · rw [if_pos c25] at H
                                have c25b0 : decide (x35_3 < (y111.length : Int)) = true := decide_eq_true c25
                                clear c25
                                by_cases c26 : ((rd_T67 y111 x35_3).f0) = ((rd_T67 l0_2 x22_2).f0)
                                · rw [if_pos c26] at H
                                  have c26b0 : (((rd_T67 y111 x35_3).f0) == ((rd_T67 l0_2 x22_2).f0)) = true := beq_iff_eq.mpr c26
                                  have c26b1 : (((rd_T67 y111 x35_3).f0) != ((rd_T67 l0_2 x22_2).f0)) = false := bne_eq_false_iff_eq.mpr c26
                                  clear c26
                                  by_cases c27 : ((rd_T67 y111 x35_3).f1) ≥ ((rd_T67 l0_2 x22_2).f1)
                                  · rw [if_pos c27] at H
                                    have c27b0 : decide (((rd_T67 l0_2 x22_2).f1) ≤ ((rd_T67 y111 x35_3).f1)) = true := decide_eq_true c27
                                    clear c27
                                    obtain rfl := Option.some.inj H
                                    have p115 : 0 ≤ (x35_3 : Int) := of_decide_eq_true (by first | (with_reducible assumption) | assumption)
                                    have q115 : x35_3 < (y111.length : Int) := of_decide_eq_true (by first | (with_reducible assumption) | assumption)
                                    obtain ⟨ad115, A115_2, c115_2, e115, hx115_0, hx115_1, hx115_2, hl115_2, hi115_2⟩ := at_T67 HR114.out x35_3 p115 q115
                                    obtain rfl : ad108 = ad115 := (by injection e115)
                                    replace hx115_0 := bc_ HB.out hx115_0
                                    replace hx115_1 := bc_ HB.out hx115_1
                                    replace hx115_2 := bc_ HB.out hx115_2
                                    have HR115_2 := mz hi115_2
                                    have HC115_2 := mz hl115_2
                                    clear hi115_2 hl115_2
                                    replace p115 := eq_true p115
                                    replace q115 := eq_true q115
                                    go_wp2_with (first | ((with_reducible refine gate_dst (N := 6) rfl ?_); (try (refine gate_guard (by rfl) ?_; dsimp only)); refine box_event ?hg (N := 6) ?hd (cs := #[.int .i64 0, .int .i64 0, .slice none 0 0]) (t := 67) ?hr ?_; (case hd => rfl); (case hg => rfl); (case hr => first | (go_simp; done) | (go_simp; rfl)); intro gb116 hg w28 hbox hb; have n0_ := mz (blk_below (g := gb101) (o := .cells #[.string a0_0, .string a0_1, .slice (some ad108) l0_2.length c0_2] 24 (0, 0)) (by (with_reducible repeat (first | refine blk_drewN ?_ _ | refine blk_drew ?_ | refine blk_alloc ?_ _)); exact BK101.out) hb); have n1_ := mz (blk_below (g := gb109) (o := .cells #[.int .i64 ((rd_T67 l0_2 x22_2).f0), .int .i64 ((rd_T67 l0_2 x22_2).f1), .slice A108_2 ((rd_T67 l0_2 x22_2).f2).length c108_2] 67 (0, 0)) (by (with_reducible repeat (first | refine blk_drewN ?_ _ | refine blk_drew ?_ | refine blk_alloc ?_ _)); exact BK109.out) hb); have n2_ := mz (below_step (by repeat (first | (with_reducible first | exact HB.out | apply below_alloc | apply pw_below_drewN | apply below_drew1 | refine below_set ?_ GE101.out | refine below_set ?_ GE109.out) | exact HB.out)) hb); have n3_ := mz (hbox); have n4_ := mz ((by rw [hg]; exact (below_size (by repeat (first | (with_reducible first | exact HB.out | apply below_alloc | apply pw_below_drewN | apply below_drew1 | refine below_set ?_ GE101.out | refine below_set ?_ GE109.out) | exact HB.out))) : w.heap.size ≤ gb116)); have n5_ := mz ((by rw [hg]; exact (below_size (by repeat (first | (with_reducible first | exact HB.out | apply below_alloc | apply pw_below_drewN | apply below_drew1 | refine below_set ?_ GE101.out | refine below_set ?_ GE109.out) | exact HB.out))) : w.heap.size ≤ gb116)); have n6_ := mz ((by rw [hg]; exact Nat.ne_of_lt (blk_lt (g := gb101) (o := .cells #[.string a0_0, .string a0_1, .slice (some ad108) l0_2.length c0_2] 24 (0, 0)) (by (with_reducible repeat (first | refine blk_drewN ?_ _ | refine blk_drew ?_ | refine blk_alloc ?_ _)); exact BK101.out)) : gb101 ≠ gb116)); have n7_ := mz ((by rw [hg]; exact Nat.ne_of_gt (blk_lt (g := gb101) (o := .cells #[.string a0_0, .string a0_1, .slice (some ad108) l0_2.length c0_2] 24 (0, 0)) (by (with_reducible repeat (first | refine blk_drewN ?_ _ | refine blk_drew ?_ | refine blk_alloc ?_ _)); exact BK101.out)) : gb116 ≠ gb101)); have n8_ := mz ((by rw [hg]; exact Nat.ne_of_lt (blk_lt (g := gb109) (o := .cells #[.int .i64 ((rd_T67 l0_2 x22_2).f0), .int .i64 ((rd_T67 l0_2 x22_2).f1), .slice A108_2 ((rd_T67 l0_2 x22_2).f2).length c108_2] 67 (0, 0)) (by (with_reducible repeat (first | refine blk_drewN ?_ _ | refine blk_drew ?_ | refine blk_alloc ?_ _)); exact BK109.out)) : gb109 ≠ gb116)); have n9_ := mz ((by rw [hg]; exact Nat.ne_of_gt (blk_lt (g := gb109) (o := .cells #[.int .i64 ((rd_T67 l0_2 x22_2).f0), .int .i64 ((rd_T67 l0_2 x22_2).f1), .slice A108_2 ((rd_T67 l0_2 x22_2).f2).length c108_2] 67 (0, 0)) (by (with_reducible repeat (first | refine blk_drewN ?_ _ | refine blk_drew ?_ | refine blk_alloc ?_ _)); exact BK109.out)) : gb116 ≠ gb109)); clear BK101; clear BK109; clear HB; have BK101 := n0_; have BK109 := n1_; have HB := n2_; have BK116 := n3_; have GW116 := n4_; have GE116 := n5_; have NB101_116 := n6_; have NB116_101 := n7_; have NB109_116 := n8_; have NB116_109 := n9_; clear n0_ n1_ n2_ n3_ n4_ n5_ n6_ n7_ n8_ n9_; clear hb hbox hg; have hnb29 := NB116_101.out; have hnc29 := NB101_116.out; have hnb30 := NB116_109.out; have hnc30 := NB109_116.out; have hcz31_0 : w28.cell? ⟨gb116, 0, none⟩ = some (.int .i64 0) := (blk_cell BK116.out 0).trans rfl; have hcz31_1 : w28.cell? ⟨gb116, 1, none⟩ = some (.int .i64 0) := (blk_cell BK116.out 1).trans rfl; have hcz31_2 : w28.cell? ⟨gb116, 2, none⟩ = some (.slice none 0 0) := (blk_cell BK116.out 2).trans rfl; have hfz31_0 := blk_frozen BK116.out 0; have hfz31_1 := blk_frozen BK116.out 1; have hfz31_2 := blk_frozen BK116.out 2; have hnb32 := NB109_101.out; have hnc32 := NB101_109.out; have hcz33_0 : w28.cell? ⟨gb109, 0, none⟩ = some (.int .i64 ((rd_T67 l0_2 x22_2).f0)) := (blk_cell BK109.out 0).trans rfl; have hcz33_1 : w28.cell? ⟨gb109, 1, none⟩ = some (.int .i64 ((rd_T67 l0_2 x22_2).f1)) := (blk_cell BK109.out 1).trans rfl; have hcz33_2 : w28.cell? ⟨gb109, 2, none⟩ = some (.slice A108_2 ((rd_T67 l0_2 x22_2).f2).length c108_2) := (blk_cell BK109.out 2).trans rfl; have hfz33_0 := blk_frozen BK109.out 0; have hfz33_1 := blk_frozen BK109.out 1; have hfz33_2 := blk_frozen BK109.out 2))
                                    repeat (go_quiet (first | ((with_reducible refine gate_dst (N := 6) rfl ?_); (try (refine gate_guard (by rfl) ?_; dsimp only)); refine box_event ?hg (N := 6) ?hd (cs := #[.int .i64 0, .int .i64 0, .slice none 0 0]) (t := 67) ?hr ?_; (case hd => rfl); (case hg => rfl); (case hr => first | (go_simp; done) | (go_simp; rfl)); intro gb116 hg w28 hbox hb; have n0_ := mz (blk_below (g := gb101) (o := .cells #[.string a0_0, .string a0_1, .slice (some ad108) l0_2.length c0_2] 24 (0, 0)) (by (with_reducible repeat (first | refine blk_drewN ?_ _ | refine blk_drew ?_ | refine blk_alloc ?_ _)); exact BK101.out) hb); have n1_ := mz (blk_below (g := gb109) (o := .cells #[.int .i64 ((rd_T67 l0_2 x22_2).f0), .int .i64 ((rd_T67 l0_2 x22_2).f1), .slice A108_2 ((rd_T67 l0_2 x22_2).f2).length c108_2] 67 (0, 0)) (by (with_reducible repeat (first | refine blk_drewN ?_ _ | refine blk_drew ?_ | refine blk_alloc ?_ _)); exact BK109.out) hb); have n2_ := mz (below_step (by repeat (first | (with_reducible first | exact HB.out | apply below_alloc | apply pw_below_drewN | apply below_drew1 | refine below_set ?_ GE101.out | refine below_set ?_ GE109.out) | exact HB.out)) hb); have n3_ := mz (hbox); have n4_ := mz ((by rw [hg]; exact (below_size (by repeat (first | (with_reducible first | exact HB.out | apply below_alloc | apply pw_below_drewN | apply below_drew1 | refine below_set ?_ GE101.out | refine below_set ?_ GE109.out) | exact HB.out))) : w.heap.size ≤ gb116)); have n5_ := mz ((by rw [hg]; exact (below_size (by repeat (first | (with_reducible first | exact HB.out | apply below_alloc | apply pw_below_drewN | apply below_drew1 | refine below_set ?_ GE101.out | refine below_set ?_ GE109.out) | exact HB.out))) : w.heap.size ≤ gb116)); have n6_ := mz ((by rw [hg]; exact Nat.ne_of_lt (blk_lt (g := gb101) (o := .cells #[.string a0_0, .string a0_1, .slice (some ad108) l0_2.length c0_2] 24 (0, 0)) (by (with_reducible repeat (first | refine blk_drewN ?_ _ | refine blk_drew ?_ | refine blk_alloc ?_ _)); exact BK101.out)) : gb101 ≠ gb116)); have n7_ := mz ((by rw [hg]; exact Nat.ne_of_gt (blk_lt (g := gb101) (o := .cells #[.string a0_0, .string a0_1, .slice (some ad108) l0_2.length c0_2] 24 (0, 0)) (by (with_reducible repeat (first | refine blk_drewN ?_ _ | refine blk_drew ?_ | refine blk_alloc ?_ _)); exact BK101.out)) : gb116 ≠ gb101)); have n8_ := mz ((by rw [hg]; exact Nat.ne_of_lt (blk_lt (g := gb109) (o := .cells #[.int .i64 ((rd_T67 l0_2 x22_2).f0), .int .i64 ((rd_T67 l0_2 x22_2).f1), .slice A108_2 ((rd_T67 l0_2 x22_2).f2).length c108_2] 67 (0, 0)) (by (with_reducible repeat (first | refine blk_drewN ?_ _ | refine blk_drew ?_ | refine blk_alloc ?_ _)); exact BK109.out)) : gb109 ≠ gb116)); have n9_ := mz ((by rw [hg]; exact Nat.ne_of_gt (blk_lt (g := gb109) (o := .cells #[.int .i64 ((rd_T67 l0_2 x22_2).f0), .int .i64 ((rd_T67 l0_2 x22_2).f1), .slice A108_2 ((rd_T67 l0_2 x22_2).f2).length c108_2] 67 (0, 0)) (by (with_reducible repeat (first | refine blk_drewN ?_ _ | refine blk_drew ?_ | refine blk_alloc ?_ _)); exact BK109.out)) : gb116 ≠ gb109)); clear BK101; clear BK109; clear HB; have BK101 := n0_; have BK109 := n1_; have HB := n2_; have BK116 := n3_; have GW116 := n4_; have GE116 := n5_; have NB101_116 := n6_; have NB116_101 := n7_; have NB109_116 := n8_; have NB116_109 := n9_; clear n0_ n1_ n2_ n3_ n4_ n5_ n6_ n7_ n8_ n9_; clear hb hbox hg; have hnb29 := NB116_101.out; have hnc29 := NB101_116.out; have hnb30 := NB116_109.out; have hnc30 := NB109_116.out; have hcz31_0 : w28.cell? ⟨gb116, 0, none⟩ = some (.int .i64 0) := (blk_cell BK116.out 0).trans rfl; have hcz31_1 : w28.cell? ⟨gb116, 1, none⟩ = some (.int .i64 0) := (blk_cell BK116.out 1).trans rfl; have hcz31_2 : w28.cell? ⟨gb116, 2, none⟩ = some (.slice none 0 0) := (blk_cell BK116.out 2).trans rfl; have hfz31_0 := blk_frozen BK116.out 0; have hfz31_1 := blk_frozen BK116.out 1; have hfz31_2 := blk_frozen BK116.out 2; have hnb32 := NB109_101.out; have hnc32 := NB101_109.out; have hcz33_0 : w28.cell? ⟨gb109, 0, none⟩ = some (.int .i64 ((rd_T67 l0_2 x22_2).f0)) := (blk_cell BK109.out 0).trans rfl; have hcz33_1 : w28.cell? ⟨gb109, 1, none⟩ = some (.int .i64 ((rd_T67 l0_2 x22_2).f1)) := (blk_cell BK109.out 1).trans rfl; have hcz33_2 : w28.cell? ⟨gb109, 2, none⟩ = some (.slice A108_2 ((rd_T67 l0_2 x22_2).f2).length c108_2) := (blk_cell BK109.out 2).trans rfl; have hfz33_0 := blk_frozen BK109.out 0; have hfz33_1 := blk_frozen BK109.out 1; have hfz33_2 := blk_frozen BK109.out 2)); try go_wp2_with (first | ((with_reducible refine gate_dst (N := 6) rfl ?_); (try (refine gate_guard (by rfl) ?_; dsimp only)); refine box_event ?hg (N := 6) ?hd (cs := #[.int .i64 0, .int .i64 0, .slice none 0 0]) (t := 67) ?hr ?_; (case hd => rfl); (case hg => rfl); (case hr => first | (go_simp; done) | (go_simp; rfl)); intro gb116 hg w28 hbox hb; have n0_ := mz (blk_below (g := gb101) (o := .cells #[.string a0_0, .string a0_1, .slice (some ad108) l0_2.length c0_2] 24 (0, 0)) (by (with_reducible repeat (first | refine blk_drewN ?_ _ | refine blk_drew ?_ | refine blk_alloc ?_ _)); exact BK101.out) hb); have n1_ := mz (blk_below (g := gb109) (o := .cells #[.int .i64 ((rd_T67 l0_2 x22_2).f0), .int .i64 ((rd_T67 l0_2 x22_2).f1), .slice A108_2 ((rd_T67 l0_2 x22_2).f2).length c108_2] 67 (0, 0)) (by (with_reducible repeat (first | refine blk_drewN ?_ _ | refine blk_drew ?_ | refine blk_alloc ?_ _)); exact BK109.out) hb); have n2_ := mz (below_step (by repeat (first | (with_reducible first | exact HB.out | apply below_alloc | apply pw_below_drewN | apply below_drew1 | refine below_set ?_ GE101.out | refine below_set ?_ GE109.out) | exact HB.out)) hb); have n3_ := mz (hbox); have n4_ := mz ((by rw [hg]; exact (below_size (by repeat (first | (with_reducible first | exact HB.out | apply below_alloc | apply pw_below_drewN | apply below_drew1 | refine below_set ?_ GE101.out | refine below_set ?_ GE109.out) | exact HB.out))) : w.heap.size ≤ gb116)); have n5_ := mz ((by rw [hg]; exact (below_size (by repeat (first | (with_reducible first | exact HB.out | apply below_alloc | apply pw_below_drewN | apply below_drew1 | refine below_set ?_ GE101.out | refine below_set ?_ GE109.out) | exact HB.out))) : w.heap.size ≤ gb116)); have n6_ := mz ((by rw [hg]; exact Nat.ne_of_lt (blk_lt (g := gb101) (o := .cells #[.string a0_0, .string a0_1, .slice (some ad108) l0_2.length c0_2] 24 (0, 0)) (by (with_reducible repeat (first | refine blk_drewN ?_ _ | refine blk_drew ?_ | refine blk_alloc ?_ _)); exact BK101.out)) : gb101 ≠ gb116)); have n7_ := mz ((by rw [hg]; exact Nat.ne_of_gt (blk_lt (g := gb101) (o := .cells #[.string a0_0, .string a0_1, .slice (some ad108) l0_2.length c0_2] 24 (0, 0)) (by (with_reducible repeat (first | refine blk_drewN ?_ _ | refine blk_drew ?_ | refine blk_alloc ?_ _)); exact BK101.out)) : gb116 ≠ gb101)); have n8_ := mz ((by rw [hg]; exact Nat.ne_of_lt (blk_lt (g := gb109) (o := .cells #[.int .i64 ((rd_T67 l0_2 x22_2).f0), .int .i64 ((rd_T67 l0_2 x22_2).f1), .slice A108_2 ((rd_T67 l0_2 x22_2).f2).length c108_2] 67 (0, 0)) (by (with_reducible repeat (first | refine blk_drewN ?_ _ | refine blk_drew ?_ | refine blk_alloc ?_ _)); exact BK109.out)) : gb109 ≠ gb116)); have n9_ := mz ((by rw [hg]; exact Nat.ne_of_gt (blk_lt (g := gb109) (o := .cells #[.int .i64 ((rd_T67 l0_2 x22_2).f0), .int .i64 ((rd_T67 l0_2 x22_2).f1), .slice A108_2 ((rd_T67 l0_2 x22_2).f2).length c108_2] 67 (0, 0)) (by (with_reducible repeat (first | refine blk_drewN ?_ _ | refine blk_drew ?_ | refine blk_alloc ?_ _)); exact BK109.out)) : gb116 ≠ gb109)); clear BK101; clear BK109; clear HB; have BK101 := n0_; have BK109 := n1_; have HB := n2_; have BK116 := n3_; have GW116 := n4_; have GE116 := n5_; have NB101_116 := n6_; have NB116_101 := n7_; have NB109_116 := n8_; have NB116_109 := n9_; clear n0_ n1_ n2_ n3_ n4_ n5_ n6_ n7_ n8_ n9_; clear hb hbox hg; have hnb29 := NB116_101.out; have hnc29 := NB101_116.out; have hnb30 := NB116_109.out; have hnc30 := NB109_116.out; have hcz31_0 : w28.cell? ⟨gb116, 0, none⟩ = some (.int .i64 0) := (blk_cell BK116.out 0).trans rfl; have hcz31_1 : w28.cell? ⟨gb116, 1, none⟩ = some (.int .i64 0) := (blk_cell BK116.out 1).trans rfl; have hcz31_2 : w28.cell? ⟨gb116, 2, none⟩ = some (.slice none 0 0) := (blk_cell BK116.out 2).trans rfl; have hfz31_0 := blk_frozen BK116.out 0; have hfz31_1 := blk_frozen BK116.out 1; have hfz31_2 := blk_frozen BK116.out 2; have hnb32 := NB109_101.out; have hnc32 := NB101_109.out; have hcz33_0 : w28.cell? ⟨gb109, 0, none⟩ = some (.int .i64 ((rd_T67 l0_2 x22_2).f0)) := (blk_cell BK109.out 0).trans rfl; have hcz33_1 : w28.cell? ⟨gb109, 1, none⟩ = some (.int .i64 ((rd_T67 l0_2 x22_2).f1)) := (blk_cell BK109.out 1).trans rfl; have hcz33_2 : w28.cell? ⟨gb109, 2, none⟩ = some (.slice A108_2 ((rd_T67 l0_2 x22_2).f2).length c108_2) := (blk_cell BK109.out 2).trans rfl; have hfz33_0 := blk_frozen BK109.out 0; have hfz33_1 := blk_frozen BK109.out 1; have hfz33_2 := blk_frozen BK109.out 2)))
                                    go_ret
                                    exact ⟨by first | rfl | (simp [errW_none, errW_some] <;> rfl) | (simp [*, errW_none, errW_some] <;> rfl), by repeat (first | (with_reducible first | exact HB.out | apply below_alloc | apply pw_below_drewN | apply below_drew1 | refine below_set ?_ GE101.out | refine below_set ?_ GE109.out | refine below_set ?_ GE116.out) | exact HB.out)⟩
                                  · rw [if_neg c27] at H
                                    have c27b0 : decide (((rd_T67 l0_2 x22_2).f1) ≤ ((rd_T67 y111 x35_3).f1)) = false := decide_eq_false c27
                                    clear c27
                                    have H' := mz H
                                    clear H
                                    have p115 : 0 ≤ (x35_3 : Int) := of_decide_eq_true (by first | (with_reducible assumption) | assumption)
                                    have q115 : x35_3 < (y111.length : Int) := of_decide_eq_true (by first | (with_reducible assumption) | assumption)
                                    obtain ⟨ad115, A115_2, c115_2, e115, hx115_0, hx115_1, hx115_2, hl115_2, hi115_2⟩ := at_T67 HR114.out x35_3 p115 q115
                                    obtain rfl : ad108 = ad115 := (by injection e115)
                                    replace hx115_0 := bc_ HB.out hx115_0
                                    replace hx115_1 := bc_ HB.out hx115_1
                                    replace hx115_2 := bc_ HB.out hx115_2
                                    have HR115_2 := mz hi115_2
                                    have HC115_2 := mz hl115_2
                                    clear hi115_2 hl115_2
                                    replace p115 := eq_true p115
                                    replace q115 := eq_true q115
                                    go_wp2_with (first | ((with_reducible refine gate_dst (N := 6) rfl ?_); (try (refine gate_guard (by rfl) ?_; dsimp only)); refine box_event ?hg (N := 6) ?hd (cs := #[.int .i64 0, .int .i64 0, .slice none 0 0]) (t := 67) ?hr ?_; (case hd => rfl); (case hg => rfl); (case hr => first | (go_simp; done) | (go_simp; rfl)); intro gb116 hg w34 hbox hb; have n0_ := mz (blk_below (g := gb101) (o := .cells #[.string a0_0, .string a0_1, .slice (some ad108) l0_2.length c0_2] 24 (0, 0)) (by (with_reducible repeat (first | refine blk_drewN ?_ _ | refine blk_drew ?_ | refine blk_alloc ?_ _)); exact BK101.out) hb); have n1_ := mz (blk_below (g := gb109) (o := .cells #[.int .i64 ((rd_T67 l0_2 x22_2).f0), .int .i64 ((rd_T67 l0_2 x22_2).f1), .slice A108_2 ((rd_T67 l0_2 x22_2).f2).length c108_2] 67 (0, 0)) (by (with_reducible repeat (first | refine blk_drewN ?_ _ | refine blk_drew ?_ | refine blk_alloc ?_ _)); exact BK109.out) hb); have n2_ := mz (below_step (by repeat (first | (with_reducible first | exact HB.out | apply below_alloc | apply pw_below_drewN | apply below_drew1 | refine below_set ?_ GE101.out | refine below_set ?_ GE109.out) | exact HB.out)) hb); have n3_ := mz (hbox); have n4_ := mz ((by rw [hg]; exact (below_size (by repeat (first | (with_reducible first | exact HB.out | apply below_alloc | apply pw_below_drewN | apply below_drew1 | refine below_set ?_ GE101.out | refine below_set ?_ GE109.out) | exact HB.out))) : w.heap.size ≤ gb116)); have n5_ := mz ((by rw [hg]; exact (below_size (by repeat (first | (with_reducible first | exact HB.out | apply below_alloc | apply pw_below_drewN | apply below_drew1 | refine below_set ?_ GE101.out | refine below_set ?_ GE109.out) | exact HB.out))) : w.heap.size ≤ gb116)); have n6_ := mz ((by rw [hg]; exact Nat.ne_of_lt (blk_lt (g := gb101) (o := .cells #[.string a0_0, .string a0_1, .slice (some ad108) l0_2.length c0_2] 24 (0, 0)) (by (with_reducible repeat (first | refine blk_drewN ?_ _ | refine blk_drew ?_ | refine blk_alloc ?_ _)); exact BK101.out)) : gb101 ≠ gb116)); have n7_ := mz ((by rw [hg]; exact Nat.ne_of_gt (blk_lt (g := gb101) (o := .cells #[.string a0_0, .string a0_1, .slice (some ad108) l0_2.length c0_2] 24 (0, 0)) (by (with_reducible repeat (first | refine blk_drewN ?_ _ | refine blk_drew ?_ | refine blk_alloc ?_ _)); exact BK101.out)) : gb116 ≠ gb101)); have n8_ := mz ((by rw [hg]; exact Nat.ne_of_lt (blk_lt (g := gb109) (o := .cells #[.int .i64 ((rd_T67 l0_2 x22_2).f0), .int .i64 ((rd_T67 l0_2 x22_2).f1), .slice A108_2 ((rd_T67 l0_2 x22_2).f2).length c108_2] 67 (0, 0)) (by (with_reducible repeat (first | refine blk_drewN ?_ _ | refine blk_drew ?_ | refine blk_alloc ?_ _)); exact BK109.out)) : gb109 ≠ gb116)); have n9_ := mz ((by rw [hg]; exact Nat.ne_of_gt (blk_lt (g := gb109) (o := .cells #[.int .i64 ((rd_T67 l0_2 x22_2).f0), .int .i64 ((rd_T67 l0_2 x22_2).f1), .slice A108_2 ((rd_T67 l0_2 x22_2).f2).length c108_2] 67 (0, 0)) (by (with_reducible repeat (first | refine blk_drewN ?_ _ | refine blk_drew ?_ | refine blk_alloc ?_ _)); exact BK109.out)) : gb116 ≠ gb109)); clear BK101; clear BK109; clear HB; have BK101 := n0_; have BK109 := n1_; have HB := n2_; have BK116 := n3_; have GW116 := n4_; have GE116 := n5_; have NB101_116 := n6_; have NB116_101 := n7_; have NB109_116 := n8_; have NB116_109 := n9_; clear n0_ n1_ n2_ n3_ n4_ n5_ n6_ n7_ n8_ n9_; clear hb hbox hg; have hnb35 := NB116_101.out; have hnc35 := NB101_116.out; have hnb36 := NB116_109.out; have hnc36 := NB109_116.out; have hcz37_0 : w34.cell? ⟨gb116, 0, none⟩ = some (.int .i64 0) := (blk_cell BK116.out 0).trans rfl; have hcz37_1 : w34.cell? ⟨gb116, 1, none⟩ = some (.int .i64 0) := (blk_cell BK116.out 1).trans rfl; have hcz37_2 : w34.cell? ⟨gb116, 2, none⟩ = some (.slice none 0 0) := (blk_cell BK116.out 2).trans rfl; have hfz37_0 := blk_frozen BK116.out 0; have hfz37_1 := blk_frozen BK116.out 1; have hfz37_2 := blk_frozen BK116.out 2; have hnb38 := NB109_101.out; have hnc38 := NB101_109.out; have hcz39_0 : w34.cell? ⟨gb109, 0, none⟩ = some (.int .i64 ((rd_T67 l0_2 x22_2).f0)) := (blk_cell BK109.out 0).trans rfl; have hcz39_1 : w34.cell? ⟨gb109, 1, none⟩ = some (.int .i64 ((rd_T67 l0_2 x22_2).f1)) := (blk_cell BK109.out 1).trans rfl; have hcz39_2 : w34.cell? ⟨gb109, 2, none⟩ = some (.slice A108_2 ((rd_T67 l0_2 x22_2).f2).length c108_2) := (blk_cell BK109.out 2).trans rfl; have hfz39_0 := blk_frozen BK109.out 0; have hfz39_1 := blk_frozen BK109.out 1; have hfz39_2 := blk_frozen BK109.out 2))
                                    repeat (go_quiet (first | ((with_reducible refine gate_dst (N := 6) rfl ?_); (try (refine gate_guard (by rfl) ?_; dsimp only)); refine box_event ?hg (N := 6) ?hd (cs := #[.int .i64 0, .int .i64 0, .slice none 0 0]) (t := 67) ?hr ?_; (case hd => rfl); (case hg => rfl); (case hr => first | (go_simp; done) | (go_simp; rfl)); intro gb116 hg w34 hbox hb; have n0_ := mz (blk_below (g := gb101) (o := .cells #[.string a0_0, .string a0_1, .slice (some ad108) l0_2.length c0_2] 24 (0, 0)) (by (with_reducible repeat (first | refine blk_drewN ?_ _ | refine blk_drew ?_ | refine blk_alloc ?_ _)); exact BK101.out) hb); have n1_ := mz (blk_below (g := gb109) (o := .cells #[.int .i64 ((rd_T67 l0_2 x22_2).f0), .int .i64 ((rd_T67 l0_2 x22_2).f1), .slice A108_2 ((rd_T67 l0_2 x22_2).f2).length c108_2] 67 (0, 0)) (by (with_reducible repeat (first | refine blk_drewN ?_ _ | refine blk_drew ?_ | refine blk_alloc ?_ _)); exact BK109.out) hb); have n2_ := mz (below_step (by repeat (first | (with_reducible first | exact HB.out | apply below_alloc | apply pw_below_drewN | apply below_drew1 | refine below_set ?_ GE101.out | refine below_set ?_ GE109.out) | exact HB.out)) hb); have n3_ := mz (hbox); have n4_ := mz ((by rw [hg]; exact (below_size (by repeat (first | (with_reducible first | exact HB.out | apply below_alloc | apply pw_below_drewN | apply below_drew1 | refine below_set ?_ GE101.out | refine below_set ?_ GE109.out) | exact HB.out))) : w.heap.size ≤ gb116)); have n5_ := mz ((by rw [hg]; exact (below_size (by repeat (first | (with_reducible first | exact HB.out | apply below_alloc | apply pw_below_drewN | apply below_drew1 | refine below_set ?_ GE101.out | refine below_set ?_ GE109.out) | exact HB.out))) : w.heap.size ≤ gb116)); have n6_ := mz ((by rw [hg]; exact Nat.ne_of_lt (blk_lt (g := gb101) (o := .cells #[.string a0_0, .string a0_1, .slice (some ad108) l0_2.length c0_2] 24 (0, 0)) (by (with_reducible repeat (first | refine blk_drewN ?_ _ | refine blk_drew ?_ | refine blk_alloc ?_ _)); exact BK101.out)) : gb101 ≠ gb116)); have n7_ := mz ((by rw [hg]; exact Nat.ne_of_gt (blk_lt (g := gb101) (o := .cells #[.string a0_0, .string a0_1, .slice (some ad108) l0_2.length c0_2] 24 (0, 0)) (by (with_reducible repeat (first | refine blk_drewN ?_ _ | refine blk_drew ?_ | refine blk_alloc ?_ _)); exact BK101.out)) : gb116 ≠ gb101)); have n8_ := mz ((by rw [hg]; exact Nat.ne_of_lt (blk_lt (g := gb109) (o := .cells #[.int .i64 ((rd_T67 l0_2 x22_2).f0), .int .i64 ((rd_T67 l0_2 x22_2).f1), .slice A108_2 ((rd_T67 l0_2 x22_2).f2).length c108_2] 67 (0, 0)) (by (with_reducible repeat (first | refine blk_drewN ?_ _ | refine blk_drew ?_ | refine blk_alloc ?_ _)); exact BK109.out)) : gb109 ≠ gb116)); have n9_ := mz ((by rw [hg]; exact Nat.ne_of_gt (blk_lt (g := gb109) (o := .cells #[.int .i64 ((rd_T67 l0_2 x22_2).f0), .int .i64 ((rd_T67 l0_2 x22_2).f1), .slice A108_2 ((rd_T67 l0_2 x22_2).f2).length c108_2] 67 (0, 0)) (by (with_reducible repeat (first | refine blk_drewN ?_ _ | refine blk_drew ?_ | refine blk_alloc ?_ _)); exact BK109.out)) : gb116 ≠ gb109)); clear BK101; clear BK109; clear HB; have BK101 := n0_; have BK109 := n1_; have HB := n2_; have BK116 := n3_; have GW116 := n4_; have GE116 := n5_; have NB101_116 := n6_; have NB116_101 := n7_; have NB109_116 := n8_; have NB116_109 := n9_; clear n0_ n1_ n2_ n3_ n4_ n5_ n6_ n7_ n8_ n9_; clear hb hbox hg; have hnb35 := NB116_101.out; have hnc35 := NB101_116.out; have hnb36 := NB116_109.out; have hnc36 := NB109_116.out; have hcz37_0 : w34.cell? ⟨gb116, 0, none⟩ = some (.int .i64 0) := (blk_cell BK116.out 0).trans rfl; have hcz37_1 : w34.cell? ⟨gb116, 1, none⟩ = some (.int .i64 0) := (blk_cell BK116.out 1).trans rfl; have hcz37_2 : w34.cell? ⟨gb116, 2, none⟩ = some (.slice none 0 0) := (blk_cell BK116.out 2).trans rfl; have hfz37_0 := blk_frozen BK116.out 0; have hfz37_1 := blk_frozen BK116.out 1; have hfz37_2 := blk_frozen BK116.out 2; have hnb38 := NB109_101.out; have hnc38 := NB101_109.out; have hcz39_0 : w34.cell? ⟨gb109, 0, none⟩ = some (.int .i64 ((rd_T67 l0_2 x22_2).f0)) := (blk_cell BK109.out 0).trans rfl; have hcz39_1 : w34.cell? ⟨gb109, 1, none⟩ = some (.int .i64 ((rd_T67 l0_2 x22_2).f1)) := (blk_cell BK109.out 1).trans rfl; have hcz39_2 : w34.cell? ⟨gb109, 2, none⟩ = some (.slice A108_2 ((rd_T67 l0_2 x22_2).f2).length c108_2) := (blk_cell BK109.out 2).trans rfl; have hfz39_0 := blk_frozen BK109.out 0; have hfz39_1 := blk_frozen BK109.out 1; have hfz39_2 := blk_frozen BK109.out 2)); try go_wp2_with (first | ((with_reducible refine gate_dst (N := 6) rfl ?_); (try (refine gate_guard (by rfl) ?_; dsimp only)); refine box_event ?hg (N := 6) ?hd (cs := #[.int .i64 0, .int .i64 0, .slice none 0 0]) (t := 67) ?hr ?_; (case hd => rfl); (case hg => rfl); (case hr => first | (go_simp; done) | (go_simp; rfl)); intro gb116 hg w34 hbox hb; have n0_ := mz (blk_below (g := gb101) (o := .cells #[.string a0_0, .string a0_1, .slice (some ad108) l0_2.length c0_2] 24 (0, 0)) (by (with_reducible repeat (first | refine blk_drewN ?_ _ | refine blk_drew ?_ | refine blk_alloc ?_ _)); exact BK101.out) hb); have n1_ := mz (blk_below (g := gb109) (o := .cells #[.int .i64 ((rd_T67 l0_2 x22_2).f0), .int .i64 ((rd_T67 l0_2 x22_2).f1), .slice A108_2 ((rd_T67 l0_2 x22_2).f2).length c108_2] 67 (0, 0)) (by (with_reducible repeat (first | refine blk_drewN ?_ _ | refine blk_drew ?_ | refine blk_alloc ?_ _)); exact BK109.out) hb); have n2_ := mz (below_step (by repeat (first | (with_reducible first | exact HB.out | apply below_alloc | apply pw_below_drewN | apply below_drew1 | refine below_set ?_ GE101.out | refine below_set ?_ GE109.out) | exact HB.out)) hb); have n3_ := mz (hbox); have n4_ := mz ((by rw [hg]; exact (below_size (by repeat (first | (with_reducible first | exact HB.out | apply below_alloc | apply pw_below_drewN | apply below_drew1 | refine below_set ?_ GE101.out | refine below_set ?_ GE109.out) | exact HB.out))) : w.heap.size ≤ gb116)); have n5_ := mz ((by rw [hg]; exact (below_size (by repeat (first | (with_reducible first | exact HB.out | apply below_alloc | apply pw_below_drewN | apply below_drew1 | refine below_set ?_ GE101.out | refine below_set ?_ GE109.out) | exact HB.out))) : w.heap.size ≤ gb116)); have n6_ := mz ((by rw [hg]; exact Nat.ne_of_lt (blk_lt (g := gb101) (o := .cells #[.string a0_0, .string a0_1, .slice (some ad108) l0_2.length c0_2] 24 (0, 0)) (by (with_reducible repeat (first | refine blk_drewN ?_ _ | refine blk_drew ?_ | refine blk_alloc ?_ _)); exact BK101.out)) : gb101 ≠ gb116)); have n7_ := mz ((by rw [hg]; exact Nat.ne_of_gt (blk_lt (g := gb101) (o := .cells #[.string a0_0, .string a0_1, .slice (some ad108) l0_2.length c0_2] 24 (0, 0)) (by (with_reducible repeat (first | refine blk_drewN ?_ _ | refine blk_drew ?_ | refine blk_alloc ?_ _)); exact BK101.out)) : gb116 ≠ gb101)); have n8_ := mz ((by rw [hg]; exact Nat.ne_of_lt (blk_lt (g := gb109) (o := .cells #[.int .i64 ((rd_T67 l0_2 x22_2).f0), .int .i64 ((rd_T67 l0_2 x22_2).f1), .slice A108_2 ((rd_T67 l0_2 x22_2).f2).length c108_2] 67 (0, 0)) (by (with_reducible repeat (first | refine blk_drewN ?_ _ | refine blk_drew ?_ | refine blk_alloc ?_ _)); exact BK109.out)) : gb109 ≠ gb116)); have n9_ := mz ((by rw [hg]; exact Nat.ne_of_gt (blk_lt (g := gb109) (o := .cells #[.int .i64 ((rd_T67 l0_2 x22_2).f0), .int .i64 ((rd_T67 l0_2 x22_2).f1), .slice A108_2 ((rd_T67 l0_2 x22_2).f2).length c108_2] 67 (0, 0)) (by (with_reducible repeat (first | refine blk_drewN ?_ _ | refine blk_drew ?_ | refine blk_alloc ?_ _)); exact BK109.out)) : gb116 ≠ gb109)); clear BK101; clear BK109; clear HB; have BK101 := n0_; have BK109 := n1_; have HB := n2_; have BK116 := n3_; have GW116 := n4_; have GE116 := n5_; have NB101_116 := n6_; have NB116_101 := n7_; have NB109_116 := n8_; have NB116_109 := n9_; clear n0_ n1_ n2_ n3_ n4_ n5_ n6_ n7_ n8_ n9_; clear hb hbox hg; have hnb35 := NB116_101.out; have hnc35 := NB101_116.out; have hnb36 := NB116_109.out; have hnc36 := NB109_116.out; have hcz37_0 : w34.cell? ⟨gb116, 0, none⟩ = some (.int .i64 0) := (blk_cell BK116.out 0).trans rfl; have hcz37_1 : w34.cell? ⟨gb116, 1, none⟩ = some (.int .i64 0) := (blk_cell BK116.out 1).trans rfl; have hcz37_2 : w34.cell? ⟨gb116, 2, none⟩ = some (.slice none 0 0) := (blk_cell BK116.out 2).trans rfl; have hfz37_0 := blk_frozen BK116.out 0; have hfz37_1 := blk_frozen BK116.out 1; have hfz37_2 := blk_frozen BK116.out 2; have hnb38 := NB109_101.out; have hnc38 := NB101_109.out; have hcz39_0 : w34.cell? ⟨gb109, 0, none⟩ = some (.int .i64 ((rd_T67 l0_2 x22_2).f0)) := (blk_cell BK109.out 0).trans rfl; have hcz39_1 : w34.cell? ⟨gb109, 1, none⟩ = some (.int .i64 ((rd_T67 l0_2 x22_2).f1)) := (blk_cell BK109.out 1).trans rfl; have hcz39_2 : w34.cell? ⟨gb109, 2, none⟩ = some (.slice A108_2 ((rd_T67 l0_2 x22_2).f2).length c108_2) := (blk_cell BK109.out 2).trans rfl; have hfz39_0 := blk_frozen BK109.out 0; have hfz39_1 := blk_frozen BK109.out 1; have hfz39_2 := blk_frozen BK109.out 2)))
                                    go_roundg k3
                                    case measure => have := HJ1.out; have := HK2.out; have := HK3.out; omega
                                    case rel => exact ⟨(wrap64 (x35_3 + 1)), (by first | rfl | (simp; done) | (simp [*]; done)), H', ⟨by have := HJ1.out; have := HK2.out; have := HK3.out; omega⟩, ⟨by (with_reducible repeat (first | refine blk_drewN ?_ _ | refine blk_drew ?_ | refine blk_alloc ?_ _)); refine blk_far ?_ NB101_116.out _; (with_reducible repeat (first | refine blk_drewN ?_ _ | refine blk_drew ?_ | refine blk_alloc ?_ _)); refine blk_far ?_ NB101_116.out _; (with_reducible repeat (first | refine blk_drewN ?_ _ | refine blk_drew ?_ | refine blk_alloc ?_ _)); refine blk_far ?_ NB101_116.out _; (with_reducible repeat (first | refine blk_drewN ?_ _ | refine blk_drew ?_ | refine blk_alloc ?_ _)); exact BK101.out⟩, ⟨by (with_reducible repeat (first | refine blk_drewN ?_ _ | refine blk_drew ?_ | refine blk_alloc ?_ _)); refine blk_far ?_ NB109_116.out _; (with_reducible repeat (first | refine blk_drewN ?_ _ | refine blk_drew ?_ | refine blk_alloc ?_ _)); refine blk_far ?_ NB109_116.out _; (with_reducible repeat (first | refine blk_drewN ?_ _ | refine blk_drew ?_ | refine blk_alloc ?_ _)); refine blk_far ?_ NB109_116.out _; (with_reducible repeat (first | refine blk_drewN ?_ _ | refine blk_drew ?_ | refine blk_alloc ?_ _)); exact BK109.out⟩, ⟨by repeat (first | (with_reducible first | exact HB.out | apply below_alloc | apply pw_below_drewN | apply below_drew1 | refine below_set ?_ GE101.out | refine below_set ?_ GE109.out | refine below_set ?_ GE116.out) | exact HB.out)⟩⟩
                                · rw [if_neg c26] at H
                                  have c26b0 : (((rd_T67 y111 x35_3).f0) == ((rd_T67 l0_2 x22_2).f0)) = false := beq_eq_false_iff_ne.mpr c26
                                  have c26b1 : (((rd_T67 y111 x35_3).f0) != ((rd_T67 l0_2 x22_2).f0)) = true := bne_iff_ne.mpr c26
                                  have H' := mz H
                                  clear H
                                  have p115 : 0 ≤ (x35_3 : Int) := of_decide_eq_true (by first | (with_reducible assumption) | assumption)
                                  have q115 : x35_3 < (y111.length : Int) := of_decide_eq_true (by first | (with_reducible assumption) | assumption)
                                  obtain ⟨ad115, A115_2, c115_2, e115, hx115_0, hx115_1, hx115_2, hl115_2, hi115_2⟩ := at_T67 HR114.out x35_3 p115 q115
                                  obtain rfl : ad108 = ad115 := (by injection e115)
                                  replace hx115_0 := bc_ HB.out hx115_0
                                  replace hx115_1 := bc_ HB.out hx115_1
                                  replace hx115_2 := bc_ HB.out hx115_2
                                  have HR115_2 := mz hi115_2
                                  have HC115_2 := mz hl115_2
                                  clear hi115_2 hl115_2
                                  replace p115 := eq_true p115
                                  replace q115 := eq_true q115
                                  go_wp2_with (first | ((with_reducible refine gate_dst (N := 6) rfl ?_); (try (refine gate_guard (by rfl) ?_; dsimp only)); refine box_event ?hg (N := 6) ?hd (cs := #[.int .i64 0, .int .i64 0, .slice none 0 0]) (t := 67) ?hr ?_; (case hd => rfl); (case hg => rfl); (case hr => first | (go_simp; done) | (go_simp; rfl)); intro gb116 hg w40 hbox hb; have n0_ := mz (blk_below (g := gb101) (o := .cells #[.string a0_0, .string a0_1, .slice (some ad108) l0_2.length c0_2] 24 (0, 0)) (by (with_reducible repeat (first | refine blk_drewN ?_ _ | refine blk_drew ?_ | refine blk_alloc ?_ _)); exact BK101.out) hb); have n1_ := mz (blk_below (g := gb109) (o := .cells #[.int .i64 ((rd_T67 l0_2 x22_2).f0), .int .i64 ((rd_T67 l0_2 x22_2).f1), .slice A108_2 ((rd_T67 l0_2 x22_2).f2).length c108_2] 67 (0, 0)) (by (with_reducible repeat (first | refine blk_drewN ?_ _ | refine blk_drew ?_ | refine blk_alloc ?_ _)); exact BK109.out) hb); have n2_ := mz (below_step (by repeat (first | (with_reducible first | exact HB.out | apply below_alloc | apply pw_below_drewN | apply below_drew1 | refine below_set ?_ GE101.out | refine below_set ?_ GE109.out) | exact HB.out)) hb); have n3_ := mz (hbox); have n4_ := mz ((by rw [hg]; exact (below_size (by repeat (first | (with_reducible first | exact HB.out | apply below_alloc | apply pw_below_drewN | apply below_drew1 | refine below_set ?_ GE101.out | refine below_set ?_ GE109.out) | exact HB.out))) : w.heap.size ≤ gb116)); have n5_ := mz ((by rw [hg]; exact (below_size (by repeat (first | (with_reducible first | exact HB.out | apply below_alloc | apply pw_below_drewN | apply below_drew1 | refine below_set ?_ GE101.out | refine below_set ?_ GE109.out) | exact HB.out))) : w.heap.size ≤ gb116)); have n6_ := mz ((by rw [hg]; exact Nat.ne_of_lt (blk_lt (g := gb101) (o := .cells #[.string a0_0, .string a0_1, .slice (some ad108) l0_2.length c0_2] 24 (0, 0)) (by (with_reducible repeat (first | refine blk_drewN ?_ _ | refine blk_drew ?_ | refine blk_alloc ?_ _)); exact BK101.out)) : gb101 ≠ gb116)); have n7_ := mz ((by rw [hg]; exact Nat.ne_of_gt (blk_lt (g := gb101) (o := .cells #[.string a0_0, .string a0_1, .slice (some ad108) l0_2.length c0_2] 24 (0, 0)) (by (with_reducible repeat (first | refine blk_drewN ?_ _ | refine blk_drew ?_ | refine blk_alloc ?_ _)); exact BK101.out)) : gb116 ≠ gb101)); have n8_ := mz ((by rw [hg]; exact Nat.ne_of_lt (blk_lt (g := gb109) (o := .cells #[.int .i64 ((rd_T67 l0_2 x22_2).f0), .int .i64 ((rd_T67 l0_2 x22_2).f1), .slice A108_2 ((rd_T67 l0_2 x22_2).f2).length c108_2] 67 (0, 0)) (by (with_reducible repeat (first | refine blk_drewN ?_ _ | refine blk_drew ?_ | refine blk_alloc ?_ _)); exact BK109.out)) : gb109 ≠ gb116)); have n9_ := mz ((by rw [hg]; exact Nat.ne_of_gt (blk_lt (g := gb109) (o := .cells #[.int .i64 ((rd_T67 l0_2 x22_2).f0), .int .i64 ((rd_T67 l0_2 x22_2).f1), .slice A108_2 ((rd_T67 l0_2 x22_2).f2).length c108_2] 67 (0, 0)) (by (with_reducible repeat (first | refine blk_drewN ?_ _ | refine blk_drew ?_ | refine blk_alloc ?_ _)); exact BK109.out)) : gb116 ≠ gb109)); clear BK101; clear BK109; clear HB; have BK101 := n0_; have BK109 := n1_; have HB := n2_; have BK116 := n3_; have GW116 := n4_; have GE116 := n5_; have NB101_116 := n6_; have NB116_101 := n7_; have NB109_116 := n8_; have NB116_109 := n9_; clear n0_ n1_ n2_ n3_ n4_ n5_ n6_ n7_ n8_ n9_; clear hb hbox hg; have hnb41 := NB116_101.out; have hnc41 := NB101_116.out; have hnb42 := NB116_109.out; have hnc42 := NB109_116.out; have hcz43_0 : w40.cell? ⟨gb116, 0, none⟩ = some (.int .i64 0) := (blk_cell BK116.out 0).trans rfl; have hcz43_1 : w40.cell? ⟨gb116, 1, none⟩ = some (.int .i64 0) := (blk_cell BK116.out 1).trans rfl; have hcz43_2 : w40.cell? ⟨gb116, 2, none⟩ = some (.slice none 0 0) := (blk_cell BK116.out 2).trans rfl; have hfz43_0 := blk_frozen BK116.out 0; have hfz43_1 := blk_frozen BK116.out 1; have hfz43_2 := blk_frozen BK116.out 2; have hnb44 := NB109_101.out; have hnc44 := NB101_109.out; have hcz45_0 : w40.cell? ⟨gb109, 0, none⟩ = some (.int .i64 ((rd_T67 l0_2 x22_2).f0)) := (blk_cell BK109.out 0).trans rfl; have hcz45_1 : w40.cell? ⟨gb109, 1, none⟩ = some (.int .i64 ((rd_T67 l0_2 x22_2).f1)) := (blk_cell BK109.out 1).trans rfl; have hcz45_2 : w40.cell? ⟨gb109, 2, none⟩ = some (.slice A108_2 ((rd_T67 l0_2 x22_2).f2).length c108_2) := (blk_cell BK109.out 2).trans rfl; have hfz45_0 := blk_frozen BK109.out 0; have hfz45_1 := blk_frozen BK109.out 1; have hfz45_2 := blk_frozen BK109.out 2))
                                  repeat (go_quiet (first | ((with_reducible refine gate_dst (N := 6) rfl ?_); (try (refine gate_guard (by rfl) ?_; dsimp only)); refine box_event ?hg (N := 6) ?hd (cs := #[.int .i64 0, .int .i64 0, .slice none 0 0]) (t := 67) ?hr ?_; (case hd => rfl); (case hg => rfl); (case hr => first | (go_simp; done) | (go_simp; rfl)); intro gb116 hg w40 hbox hb; have n0_ := mz (blk_below (g := gb101) (o := .cells #[.string a0_0, .string a0_1, .slice (some ad108) l0_2.length c0_2] 24 (0, 0)) (by (with_reducible repeat (first | refine blk_drewN ?_ _ | refine blk_drew ?_ | refine blk_alloc ?_ _)); exact BK101.out) hb); have n1_ := mz (blk_below (g := gb109) (o := .cells #[.int .i64 ((rd_T67 l0_2 x22_2).f0), .int .i64 ((rd_T67 l0_2 x22_2).f1), .slice A108_2 ((rd_T67 l0_2 x22_2).f2).length c108_2] 67 (0, 0)) (by (with_reducible repeat (first | refine blk_drewN ?_ _ | refine blk_drew ?_ | refine blk_alloc ?_ _)); exact BK109.out) hb); have n2_ := mz (below_step (by repeat (first | (with_reducible first | exact HB.out | apply below_alloc | apply pw_below_drewN | apply below_drew1 | refine below_set ?_ GE101.out | refine below_set ?_ GE109.out) | exact HB.out)) hb); have n3_ := mz (hbox); have n4_ := mz ((by rw [hg]; exact (below_size (by repeat (first | (with_reducible first | exact HB.out | apply below_alloc | apply pw_below_drewN | apply below_drew1 | refine below_set ?_ GE101.out | refine below_set ?_ GE109.out) | exact HB.out))) : w.heap.size ≤ gb116)); have n5_ := mz ((by rw [hg]; exact (below_size (by repeat (first | (with_reducible first | exact HB.out | apply below_alloc | apply pw_below_drewN | apply below_drew1 | refine below_set ?_ GE101.out | refine below_set ?_ GE109.out) | exact HB.out))) : w.heap.size ≤ gb116)); have n6_ := mz ((by rw [hg]; exact Nat.ne_of_lt (blk_lt (g := gb101) (o := .cells #[.string a0_0, .string a0_1, .slice (some ad108) l0_2.length c0_2] 24 (0, 0)) (by (with_reducible repeat (first | refine blk_drewN ?_ _ | refine blk_drew ?_ | refine blk_alloc ?_ _)); exact BK101.out)) : gb101 ≠ gb116)); have n7_ := mz ((by rw [hg]; exact Nat.ne_of_gt (blk_lt (g := gb101) (o := .cells #[.string a0_0, .string a0_1, .slice (some ad108) l0_2.length c0_2] 24 (0, 0)) (by (with_reducible repeat (first | refine blk_drewN ?_ _ | refine blk_drew ?_ | refine blk_alloc ?_ _)); exact BK101.out)) : gb116 ≠ gb101)); have n8_ := mz ((by rw [hg]; exact Nat.ne_of_lt (blk_lt (g := gb109) (o := .cells #[.int .i64 ((rd_T67 l0_2 x22_2).f0), .int .i64 ((rd_T67 l0_2 x22_2).f1), .slice A108_2 ((rd_T67 l0_2 x22_2).f2).length c108_2] 67 (0, 0)) (by (with_reducible repeat (first | refine blk_drewN ?_ _ | refine blk_drew ?_ | refine blk_alloc ?_ _)); exact BK109.out)) : gb109 ≠ gb116)); have n9_ := mz ((by rw [hg]; exact Nat.ne_of_gt (blk_lt (g := gb109) (o := .cells #[.int .i64 ((rd_T67 l0_2 x22_2).f0), .int .i64 ((rd_T67 l0_2 x22_2).f1), .slice A108_2 ((rd_T67 l0_2 x22_2).f2).length c108_2] 67 (0, 0)) (by (with_reducible repeat (first | refine blk_drewN ?_ _ | refine blk_drew ?_ | refine blk_alloc ?_ _)); exact BK109.out)) : gb116 ≠ gb109)); clear BK101; clear BK109; clear HB; have BK101 := n0_; have BK109 := n1_; have HB := n2_; have BK116 := n3_; have GW116 := n4_; have GE116 := n5_; have NB101_116 := n6_; have NB116_101 := n7_; have NB109_116 := n8_; have NB116_109 := n9_; clear n0_ n1_ n2_ n3_ n4_ n5_ n6_ n7_ n8_ n9_; clear hb hbox hg; have hnb41 := NB116_101.out; have hnc41 := NB101_116.out; have hnb42 := NB116_109.out; have hnc42 := NB109_116.out; have hcz43_0 : w40.cell? ⟨gb116, 0, none⟩ = some (.int .i64 0) := (blk_cell BK116.out 0).trans rfl; have hcz43_1 : w40.cell? ⟨gb116, 1, none⟩ = some (.int .i64 0) := (blk_cell BK116.out 1).trans rfl; have hcz43_2 : w40.cell? ⟨gb116, 2, none⟩ = some (.slice none 0 0) := (blk_cell BK116.out 2).trans rfl; have hfz43_0 := blk_frozen BK116.out 0; have hfz43_1 := blk_frozen BK116.out 1; have hfz43_2 := blk_frozen BK116.out 2; have hnb44 := NB109_101.out; have hnc44 := NB101_109.out; have hcz45_0 : w40.cell? ⟨gb109, 0, none⟩ = some (.int .i64 ((rd_T67 l0_2 x22_2).f0)) := (blk_cell BK109.out 0).trans rfl; have hcz45_1 : w40.cell? ⟨gb109, 1, none⟩ = some (.int .i64 ((rd_T67 l0_2 x22_2).f1)) := (blk_cell BK109.out 1).trans rfl; have hcz45_2 : w40.cell? ⟨gb109, 2, none⟩ = some (.slice A108_2 ((rd_T67 l0_2 x22_2).f2).length c108_2) := (blk_cell BK109.out 2).trans rfl; have hfz45_0 := blk_frozen BK109.out 0; have hfz45_1 := blk_frozen BK109.out 1; have hfz45_2 := blk_frozen BK109.out 2)); try go_wp2_with (first | ((with_reducible refine gate_dst (N := 6) rfl ?_); (try (refine gate_guard (by rfl) ?_; dsimp only)); refine box_event ?hg (N := 6) ?hd (cs := #[.int .i64 0, .int .i64 0, .slice none 0 0]) (t := 67) ?hr ?_; (case hd => rfl); (case hg => rfl); (case hr => first | (go_simp; done) | (go_simp; rfl)); intro gb116 hg w40 hbox hb; have n0_ := mz (blk_below (g := gb101) (o := .cells #[.string a0_0, .string a0_1, .slice (some ad108) l0_2.length c0_2] 24 (0, 0)) (by (with_reducible repeat (first | refine blk_drewN ?_ _ | refine blk_drew ?_ | refine blk_alloc ?_ _)); exact BK101.out) hb); have n1_ := mz (blk_below (g := gb109) (o := .cells #[.int .i64 ((rd_T67 l0_2 x22_2).f0), .int .i64 ((rd_T67 l0_2 x22_2).f1), .slice A108_2 ((rd_T67 l0_2 x22_2).f2).length c108_2] 67 (0, 0)) (by (with_reducible repeat (first | refine blk_drewN ?_ _ | refine blk_drew ?_ | refine blk_alloc ?_ _)); exact BK109.out) hb); have n2_ := mz (below_step (by repeat (first | (with_reducible first | exact HB.out | apply below_alloc | apply pw_below_drewN | apply below_drew1 | refine below_set ?_ GE101.out | refine below_set ?_ GE109.out) | exact HB.out)) hb); have n3_ := mz (hbox); have n4_ := mz ((by rw [hg]; exact (below_size (by repeat (first | (with_reducible first | exact HB.out | apply below_alloc | apply pw_below_drewN | apply below_drew1 | refine below_set ?_ GE101.out | refine below_set ?_ GE109.out) | exact HB.out))) : w.heap.size ≤ gb116)); have n5_ := mz ((by rw [hg]; exact (below_size (by repeat (first | (with_reducible first | exact HB.out | apply below_alloc | apply pw_below_drewN | apply below_drew1 | refine below_set ?_ GE101.out | refine below_set ?_ GE109.out) | exact HB.out))) : w.heap.size ≤ gb116)); have n6_ := mz ((by rw [hg]; exact Nat.ne_of_lt (blk_lt (g := gb101) (o := .cells #[.string a0_0, .string a0_1, .slice (some ad108) l0_2.length c0_2] 24 (0, 0)) (by (with_reducible repeat (first | refine blk_drewN ?_ _ | refine blk_drew ?_ | refine blk_alloc ?_ _)); exact BK101.out)) : gb101 ≠ gb116)); have n7_ := mz ((by rw [hg]; exact Nat.ne_of_gt (blk_lt (g := gb101) (o := .cells #[.string a0_0, .string a0_1, .slice (some ad108) l0_2.length c0_2] 24 (0, 0)) (by (with_reducible repeat (first | refine blk_drewN ?_ _ | refine blk_drew ?_ | refine blk_alloc ?_ _)); exact BK101.out)) : gb116 ≠ gb101)); have n8_ := mz ((by rw [hg]; exact Nat.ne_of_lt (blk_lt (g := gb109) (o := .cells #[.int .i64 ((rd_T67 l0_2 x22_2).f0), .int .i64 ((rd_T67 l0_2 x22_2).f1), .slice A108_2 ((rd_T67 l0_2 x22_2).f2).length c108_2] 67 (0, 0)) (by (with_reducible repeat (first | refine blk_drewN ?_ _ | refine blk_drew ?_ | refine blk_alloc ?_ _)); exact BK109.out)) : gb109 ≠ gb116)); have n9_ := mz ((by rw [hg]; exact Nat.ne_of_gt (blk_lt (g := gb109) (o := .cells #[.int .i64 ((rd_T67 l0_2 x22_2).f0), .int .i64 ((rd_T67 l0_2 x22_2).f1), .slice A108_2 ((rd_T67 l0_2 x22_2).f2).length c108_2] 67 (0, 0)) (by (with_reducible repeat (first | refine blk_drewN ?_ _ | refine blk_drew ?_ | refine blk_alloc ?_ _)); exact BK109.out)) : gb116 ≠ gb109)); clear BK101; clear BK109; clear HB; have BK101 := n0_; have BK109 := n1_; have HB := n2_; have BK116 := n3_; have GW116 := n4_; have GE116 := n5_; have NB101_116 := n6_; have NB116_101 := n7_; have NB109_116 := n8_; have NB116_109 := n9_; clear n0_ n1_ n2_ n3_ n4_ n5_ n6_ n7_ n8_ n9_; clear hb hbox hg; have hnb41 := NB116_101.out; have hnc41 := NB101_116.out; have hnb42 := NB116_109.out; have hnc42 := NB109_116.out; have hcz43_0 : w40.cell? ⟨gb116, 0, none⟩ = some (.int .i64 0) := (blk_cell BK116.out 0).trans rfl; have hcz43_1 : w40.cell? ⟨gb116, 1, none⟩ = some (.int .i64 0) := (blk_cell BK116.out 1).trans rfl; have hcz43_2 : w40.cell? ⟨gb116, 2, none⟩ = some (.slice none 0 0) := (blk_cell BK116.out 2).trans rfl; have hfz43_0 := blk_frozen BK116.out 0; have hfz43_1 := blk_frozen BK116.out 1; have hfz43_2 := blk_frozen BK116.out 2; have hnb44 := NB109_101.out; have hnc44 := NB101_109.out; have hcz45_0 : w40.cell? ⟨gb109, 0, none⟩ = some (.int .i64 ((rd_T67 l0_2 x22_2).f0)) := (blk_cell BK109.out 0).trans rfl; have hcz45_1 : w40.cell? ⟨gb109, 1, none⟩ = some (.int .i64 ((rd_T67 l0_2 x22_2).f1)) := (blk_cell BK109.out 1).trans rfl; have hcz45_2 : w40.cell? ⟨gb109, 2, none⟩ = some (.slice A108_2 ((rd_T67 l0_2 x22_2).f2).length c108_2) := (blk_cell BK109.out 2).trans rfl; have hfz45_0 := blk_frozen BK109.out 0; have hfz45_1 := blk_frozen BK109.out 1; have hfz45_2 := blk_frozen BK109.out 2)))
                                  go_roundg k3
                                  case measure => have := HJ1.out; have := HK2.out; have := HK3.out; omega
                                  case rel => exact ⟨(wrap64 (x35_3 + 1)), (by first | rfl | (simp; done) | (simp [*]; done)), H', ⟨by have := HJ1.out; have := HK2.out; have := HK3.out; omega⟩, ⟨by (with_reducible repeat (first | refine blk_drewN ?_ _ | refine blk_drew ?_ | refine blk_alloc ?_ _)); refine blk_far ?_ NB101_116.out _; (with_reducible repeat (first | refine blk_drewN ?_ _ | refine blk_drew ?_ | refine blk_alloc ?_ _)); refine blk_far ?_ NB101_116.out _; (with_reducible repeat (first | refine blk_drewN ?_ _ | refine blk_drew ?_ | refine blk_alloc ?_ _)); refine blk_far ?_ NB101_116.out _; (with_reducible repeat (first | refine blk_drewN ?_ _ | refine blk_drew ?_ | refine blk_alloc ?_ _)); exact BK101.out⟩, ⟨by (with_reducible repeat (first | refine blk_drewN ?_ _ | refine blk_drew ?_ | refine blk_alloc ?_ _)); refine blk_far ?_ NB109_116.out _; (with_reducible repeat (first | refine blk_drewN ?_ _ | refine blk_drew ?_ | refine blk_alloc ?_ _)); refine blk_far ?_ NB109_116.out _; (with_reducible repeat (first | refine blk_drewN ?_ _ | refine blk_drew ?_ | refine blk_alloc ?_ _)); refine blk_far ?_ NB109_116.out _; (with_reducible repeat (first | refine blk_drewN ?_ _ | refine blk_drew ?_ | refine blk_alloc ?_ _)); exact BK109.out⟩, ⟨by repeat (first | (with_reducible first | exact HB.out | apply below_alloc | apply pw_below_drewN | apply below_drew1 | refine below_set ?_ GE101.out | refine below_set ?_ GE109.out | refine below_set ?_ GE116.out) | exact HB.out)⟩⟩
                              · rw [if_neg c25] at H
                                exact absurd H (by simp)
                            · rw [if_neg c24] at H
                              exact absurd H (by simp)
                          · rw [if_neg c23] at H
                            have c23b0 : decide (x35_3 < (y111.length : Int)) = false := decide_eq_false c23
                            clear c23
                            have H' := mz H
                            clear H
                            go_wp2
                            repeat (go_quiet (fail); try go_wp2)
                            go_roundg k3
                            case measure => have := HJ1.out; have := HK2.out; have := HK3.out; omega
                            case rel => exact ⟨(wrap64 (x22_2 + 1)), (by first | rfl | (simp; done) | (simp [*]; done)), H', ⟨by have := HJ1.out; have := HK2.out; have := HK3.out; omega⟩, ⟨by (with_reducible repeat (first | refine blk_drewN ?_ _ | refine blk_drew ?_ | refine blk_alloc ?_ _)); exact BK101.out⟩, ⟨by repeat (first | (with_reducible first | exact HB.out | apply below_alloc | apply pw_below_drewN | apply below_drew1 | refine below_set ?_ GE101.out | refine below_set ?_ GE109.out) | exact HB.out)⟩⟩
                    · rw [if_neg c16] at H
                      exact absurd H (by simp)
                  · replace c14 := Bool.eq_false_iff.mpr c14
                    subst c14
                    have H1 : (some false) = some r := by rw [if_neg (show ¬ (false = true) by decide)] at H; exact H
                    clear H
                    have H := H1
                    clear H1
                    obtain rfl := Option.some.inj H
                    have p108 : 0 ≤ (x22_2 : Int) := of_decide_eq_true (by first | (with_reducible assumption) | assumption)
                    have q108 : x22_2 < (l0_2.length : Int) := of_decide_eq_true (by first | (with_reducible assumption) | assumption)
                    obtain ⟨ad108, A108_2, c108_2, e108, hx108_0, hx108_1, hx108_2, hl108_2, hi108_2⟩ := at_T67 HR0_2.out x22_2 p108 q108
                    cases e108
                    replace hx108_0 := bc_ HB.out hx108_0
                    replace hx108_1 := bc_ HB.out hx108_1
                    replace hx108_2 := bc_ HB.out hx108_2
                    have HR108_2 := mz hi108_2
                    have HC108_2 := mz hl108_2
                    clear hi108_2 hl108_2
                    replace p108 := eq_true p108
                    replace q108 := eq_true q108
                    go_wp2_with (first | ((with_reducible refine gate_dst (N := 4) rfl ?_); (try (refine gate_guard (by rfl) ?_; dsimp only)); refine box_event ?hg (N := 4) ?hd (cs := #[.int .i64 0, .int .i64 0, .slice none 0 0]) (t := 67) ?hr ?_; (case hd => rfl); (case hg => rfl); (case hr => first | (go_simp; done) | (go_simp; rfl)); intro gb109 hg w46 hbox hb; have n0_ := mz (blk_below (g := gb101) (o := .cells #[.string a0_0, .string a0_1, .slice (some ad108) l0_2.length c0_2] 24 (0, 0)) (by (with_reducible repeat (first | refine blk_drewN ?_ _ | refine blk_drew ?_ | refine blk_alloc ?_ _)); exact BK101.out) hb); have n1_ := mz (below_step (by repeat (first | (with_reducible first | exact HB.out | apply below_alloc | apply pw_below_drewN | apply below_drew1 | refine below_set ?_ GE101.out) | exact HB.out)) hb); have n2_ := mz (hbox); have n3_ := mz ((by rw [hg]; exact (below_size (by repeat (first | (with_reducible first | exact HB.out | apply below_alloc | apply pw_below_drewN | apply below_drew1 | refine below_set ?_ GE101.out) | exact HB.out))) : w.heap.size ≤ gb109)); have n4_ := mz ((by rw [hg]; exact (below_size (by repeat (first | (with_reducible first | exact HB.out | apply below_alloc | apply pw_below_drewN | apply below_drew1 | refine below_set ?_ GE101.out) | exact HB.out))) : w.heap.size ≤ gb109)); have n5_ := mz ((by rw [hg]; exact Nat.ne_of_lt (blk_lt (g := gb101) (o := .cells #[.string a0_0, .string a0_1, .slice (some ad108) l0_2.length c0_2] 24 (0, 0)) (by (with_reducible repeat (first | refine blk_drewN ?_ _ | refine blk_drew ?_ | refine blk_alloc ?_ _)); exact BK101.out)) : gb101 ≠ gb109)); have n6_ := mz ((by rw [hg]; exact Nat.ne_of_gt (blk_lt (g := gb101) (o := .cells #[.string a0_0, .string a0_1, .slice (some ad108) l0_2.length c0_2] 24 (0, 0)) (by (with_reducible repeat (first | refine blk_drewN ?_ _ | refine blk_drew ?_ | refine blk_alloc ?_ _)); exact BK101.out)) : gb109 ≠ gb101)); clear BK101; clear HB; have BK101 := n0_; have HB := n1_; have BK109 := n2_; have GW109 := n3_; have GE109 := n4_; have NB101_109 := n5_; have NB109_101 := n6_; clear n0_ n1_ n2_ n3_ n4_ n5_ n6_; clear hb hbox hg; have hnb47 := NB109_101.out; have hnc47 := NB101_109.out; have hcz48_0 : w46.cell? ⟨gb109, 0, none⟩ = some (.int .i64 0) := (blk_cell BK109.out 0).trans rfl; have hcz48_1 : w46.cell? ⟨gb109, 1, none⟩ = some (.int .i64 0) := (blk_cell BK109.out 1).trans rfl; have hcz48_2 : w46.cell? ⟨gb109, 2, none⟩ = some (.slice none 0 0) := (blk_cell BK109.out 2).trans rfl; have hfz48_0 := blk_frozen BK109.out 0; have hfz48_1 := blk_frozen BK109.out 1; have hfz48_2 := blk_frozen BK109.out 2) | (go_at_call 50; (with_reducible refine (spec_l15Entry.calls k2 ((rd_T67 l0_2 x22_2).f0) ((rd_T67 l0_2 x22_2).f1) _ _ ((rd_T67 l0_2 x22_2).f2) false _ ?side1 ?side2 A13.out).mono ?_); (case side1 => exact Kd.C_below HR108_2.out (by repeat (first | (with_reducible first | exact HB.out | apply below_alloc | apply pw_below_drewN | apply below_drew1 | refine below_set ?_ GE101.out | refine below_set ?_ GE109.out) | exact HB.out))); (case side2 => exact HC108_2.out); rintro e w49 ⟨rfl, hb⟩; have n0_ := mz (blk_below (g := gb101) (o := .cells #[.string a0_0, .string a0_1, .slice (some ad108) l0_2.length c0_2] 24 (0, 0)) (by (with_reducible repeat (first | refine blk_drewN ?_ _ | refine blk_drew ?_ | refine blk_alloc ?_ _)); refine blk_far ?_ NB101_109.out _; (with_reducible repeat (first | refine blk_drewN ?_ _ | refine blk_drew ?_ | refine blk_alloc ?_ _)); refine blk_far ?_ NB101_109.out _; (with_reducible repeat (first | refine blk_drewN ?_ _ | refine blk_drew ?_ | refine blk_alloc ?_ _)); refine blk_far ?_ NB101_109.out _; (with_reducible repeat (first | refine blk_drewN ?_ _ | refine blk_drew ?_ | refine blk_alloc ?_ _)); exact BK101.out) hb); have n1_ := mz (blk_below (g := gb109) (o := .cells #[.int .i64 ((rd_T67 l0_2 x22_2).f0), .int .i64 ((rd_T67 l0_2 x22_2).f1), .slice A108_2 ((rd_T67 l0_2 x22_2).f2).length c108_2] 67 (0, 0)) (by (with_reducible repeat (first | refine blk_drewN ?_ _ | refine blk_drew ?_ | refine blk_alloc ?_ _)); refine blk_put (cs := #[.int .i64 ((rd_T67 l0_2 x22_2).f0), .int .i64 ((rd_T67 l0_2 x22_2).f1), .slice none 0 0]) ?_ 2 _ rfl; (with_reducible repeat (first | refine blk_drewN ?_ _ | refine blk_drew ?_ | refine blk_alloc ?_ _)); refine blk_put (cs := #[.int .i64 ((rd_T67 l0_2 x22_2).f0), .int .i64 0, .slice none 0 0]) ?_ 1 _ rfl; (with_reducible repeat (first | refine blk_drewN ?_ _ | refine blk_drew ?_ | refine blk_alloc ?_ _)); refine blk_put (cs := #[.int .i64 0, .int .i64 0, .slice none 0 0]) ?_ 0 _ rfl; (with_reducible repeat (first | refine blk_drewN ?_ _ | refine blk_drew ?_ | refine blk_alloc ?_ _)); exact BK109.out) hb); have n2_ := mz (below_step (by repeat (first | (with_reducible first | exact HB.out | apply below_alloc | apply pw_below_drewN | apply below_drew1 | refine below_set ?_ GE101.out | refine below_set ?_ GE109.out) | exact HB.out)) hb); clear BK101; clear BK109; clear HB; have BK101 := n0_; have BK109 := n1_; have HB := n2_; clear n0_ n1_ n2_; (try clear hb); (try clear hb2); (try clear hk); (try clear hi)))
                    repeat (go_quiet (first | ((with_reducible refine gate_dst (N := 4) rfl ?_); (try (refine gate_guard (by rfl) ?_; dsimp only)); refine box_event ?hg (N := 4) ?hd (cs := #[.int .i64 0, .int .i64 0, .slice none 0 0]) (t := 67) ?hr ?_; (case hd => rfl); (case hg => rfl); (case hr => first | (go_simp; done) | (go_simp; rfl)); intro gb109 hg w46 hbox hb; have n0_ := mz (blk_below (g := gb101) (o := .cells #[.string a0_0, .string a0_1, .slice (some ad108) l0_2.length c0_2] 24 (0, 0)) (by (with_reducible repeat (first | refine blk_drewN ?_ _ | refine blk_drew ?_ | refine blk_alloc ?_ _)); exact BK101.out) hb); have n1_ := mz (below_step (by repeat (first | (with_reducible first | exact HB.out | apply below_alloc | apply pw_below_drewN | apply below_drew1 | refine below_set ?_ GE101.out) | exact HB.out)) hb); have n2_ := mz (hbox); have n3_ := mz ((by rw [hg]; exact (below_size (by repeat (first | (with_reducible first | exact HB.out | apply below_alloc | apply pw_below_drewN | apply below_drew1 | refine below_set ?_ GE101.out) | exact HB.out))) : w.heap.size ≤ gb109)); have n4_ := mz ((by rw [hg]; exact (below_size (by repeat (first | (with_reducible first | exact HB.out | apply below_alloc | apply pw_below_drewN | apply below_drew1 | refine below_set ?_ GE101.out) | exact HB.out))) : w.heap.size ≤ gb109)); have n5_ := mz ((by rw [hg]; exact Nat.ne_of_lt (blk_lt (g := gb101) (o := .cells #[.string a0_0, .string a0_1, .slice (some ad108) l0_2.length c0_2] 24 (0, 0)) (by (with_reducible repeat (first | refine blk_drewN ?_ _ | refine blk_drew ?_ | refine blk_alloc ?_ _)); exact BK101.out)) : gb101 ≠ gb109)); have n6_ := mz ((by rw [hg]; exact Nat.ne_of_gt (blk_lt (g := gb101) (o := .cells #[.string a0_0, .string a0_1, .slice (some ad108) l0_2.length c0_2] 24 (0, 0)) (by (with_reducible repeat (first | refine blk_drewN ?_ _ | refine blk_drew ?_ | refine blk_alloc ?_ _)); exact BK101.out)) : gb109 ≠ gb101)); clear BK101; clear HB; have BK101 := n0_; have HB := n1_; have BK109 := n2_; have GW109 := n3_; have GE109 := n4_; have NB101_109 := n5_; have NB109_101 := n6_; clear n0_ n1_ n2_ n3_ n4_ n5_ n6_; clear hb hbox hg; have hnb47 := NB109_101.out; have hnc47 := NB101_109.out; have hcz48_0 : w46.cell? ⟨gb109, 0, none⟩ = some (.int .i64 0) := (blk_cell BK109.out 0).trans rfl; have hcz48_1 : w46.cell? ⟨gb109, 1, none⟩ = some (.int .i64 0) := (blk_cell BK109.out 1).trans rfl; have hcz48_2 : w46.cell? ⟨gb109, 2, none⟩ = some (.slice none 0 0) := (blk_cell BK109.out 2).trans rfl; have hfz48_0 := blk_frozen BK109.out 0; have hfz48_1 := blk_frozen BK109.out 1; have hfz48_2 := blk_frozen BK109.out 2) | (go_at_call 50; (with_reducible refine (spec_l15Entry.calls k2 ((rd_T67 l0_2 x22_2).f0) ((rd_T67 l0_2 x22_2).f1) _ _ ((rd_T67 l0_2 x22_2).f2) false _ ?side1 ?side2 A13.out).mono ?_); (case side1 => exact Kd.C_below HR108_2.out (by repeat (first | (with_reducible first | exact HB.out | apply below_alloc | apply pw_below_drewN | apply below_drew1 | refine below_set ?_ GE101.out | refine below_set ?_ GE109.out) | exact HB.out))); (case side2 => exact HC108_2.out); rintro e w49 ⟨rfl, hb⟩; have n0_ := mz (blk_below (g := gb101) (o := .cells #[.string a0_0, .string a0_1, .slice (some ad108) l0_2.length c0_2] 24 (0, 0)) (by (with_reducible repeat (first | refine blk_drewN ?_ _ | refine blk_drew ?_ | refine blk_alloc ?_ _)); refine blk_far ?_ NB101_109.out _; (with_reducible repeat (first | refine blk_drewN ?_ _ | refine blk_drew ?_ | refine blk_alloc ?_ _)); refine blk_far ?_ NB101_109.out _; (with_reducible repeat (first | refine blk_drewN ?_ _ | refine blk_drew ?_ | refine blk_alloc ?_ _)); refine blk_far ?_ NB101_109.out _; (with_reducible repeat (first | refine blk_drewN ?_ _ | refine blk_drew ?_ | refine blk_alloc ?_ _)); exact BK101.out) hb); have n1_ := mz (blk_below (g := gb109) (o := .cells #[.int .i64 ((rd_T67 l0_2 x22_2).f0), .int .i64 ((rd_T67 l0_2 x22_2).f1), .slice A108_2 ((rd_T67 l0_2 x22_2).f2).length c108_2] 67 (0, 0)) (by (with_reducible repeat (first | refine blk_drewN ?_ _ | refine blk_drew ?_ | refine blk_alloc ?_ _)); refine blk_put (cs := #[.int .i64 ((rd_T67 l0_2 x22_2).f0), .int .i64 ((rd_T67 l0_2 x22_2).f1), .slice none 0 0]) ?_ 2 _ rfl; (with_reducible repeat (first | refine blk_drewN ?_ _ | refine blk_drew ?_ | refine blk_alloc ?_ _)); refine blk_put (cs := #[.int .i64 ((rd_T67 l0_2 x22_2).f0), .int .i64 0, .slice none 0 0]) ?_ 1 _ rfl; (with_reducible repeat (first | refine blk_drewN ?_ _ | refine blk_drew ?_ | refine blk_alloc ?_ _)); refine blk_put (cs := #[.int .i64 0, .int .i64 0, .slice none 0 0]) ?_ 0 _ rfl; (with_reducible repeat (first | refine blk_drewN ?_ _ | refine blk_drew ?_ | refine blk_alloc ?_ _)); exact BK109.out) hb); have n2_ := mz (below_step (by repeat (first | (with_reducible first | exact HB.out | apply below_alloc | apply pw_below_drewN | apply below_drew1 | refine below_set ?_ GE101.out | refine below_set ?_ GE109.out) | exact HB.out)) hb); clear BK101; clear BK109; clear HB; have BK101 := n0_; have BK109 := n1_; have HB := n2_; clear n0_ n1_ n2_; (try clear hb); (try clear hb2); (try clear hk); (try clear hi))); try go_wp2_with (first | ((with_reducible refine gate_dst (N := 4) rfl ?_); (try (refine gate_guard (by rfl) ?_; dsimp only)); refine box_event ?hg (N := 4) ?hd (cs := #[.int .i64 0, .int .i64 0, .slice none 0 0]) (t := 67) ?hr ?_; (case hd => rfl); (case hg => rfl); (case hr => first | (go_simp; done) | (go_simp; rfl)); intro gb109 hg w46 hbox hb; have n0_ := mz (blk_below (g := gb101) (o := .cells #[.string a0_0, .string a0_1, .slice (some ad108) l0_2.length c0_2] 24 (0, 0)) (by (with_reducible repeat (first | refine blk_drewN ?_ _ | refine blk_drew ?_ | refine blk_alloc ?_ _)); exact BK101.out) hb); have n1_ := mz (below_step (by repeat (first | (with_reducible first | exact HB.out | apply below_alloc | apply pw_below_drewN | apply below_drew1 | refine below_set ?_ GE101.out) | exact HB.out)) hb); have n2_ := mz (hbox); have n3_ := mz ((by rw [hg]; exact (below_size (by repeat (first | (with_reducible first | exact HB.out | apply below_alloc | apply pw_below_drewN | apply below_drew1 | refine below_set ?_ GE101.out) | exact HB.out))) : w.heap.size ≤ gb109)); have n4_ := mz ((by rw [hg]; exact (below_size (by repeat (first | (with_reducible first | exact HB.out | apply below_alloc | apply pw_below_drewN | apply below_drew1 | refine below_set ?_ GE101.out) | exact HB.out))) : w.heap.size ≤ gb109)); have n5_ := mz ((by rw [hg]; exact Nat.ne_of_lt (blk_lt (g := gb101) (o := .cells #[.string a0_0, .string a0_1, .slice (some ad108) l0_2.length c0_2] 24 (0, 0)) (by (with_reducible repeat (first | refine blk_drewN ?_ _ | refine blk_drew ?_ | refine blk_alloc ?_ _)); exact BK101.out)) : gb101 ≠ gb109)); have n6_ := mz ((by rw [hg]; exact Nat.ne_of_gt (blk_lt (g := gb101) (o := .cells #[.string a0_0, .string a0_1, .slice (some ad108) l0_2.length c0_2] 24 (0, 0)) (by (with_reducible repeat (first | refine blk_drewN ?_ _ | refine blk_drew ?_ | refine blk_alloc ?_ _)); exact BK101.out)) : gb109 ≠ gb101)); clear BK101; clear HB; have BK101 := n0_; have HB := n1_; have BK109 := n2_; have GW109 := n3_; have GE109 := n4_; have NB101_109 := n5_; have NB109_101 := n6_; clear n0_ n1_ n2_ n3_ n4_ n5_ n6_; clear hb hbox hg; have hnb47 := NB109_101.out; have hnc47 := NB101_109.out; have hcz48_0 : w46.cell? ⟨gb109, 0, none⟩ = some (.int .i64 0) := (blk_cell BK109.out 0).trans rfl; have hcz48_1 : w46.cell? ⟨gb109, 1, none⟩ = some (.int .i64 0) := (blk_cell BK109.out 1).trans rfl; have hcz48_2 : w46.cell? ⟨gb109, 2, none⟩ = some (.slice none 0 0) := (blk_cell BK109.out 2).trans rfl; have hfz48_0 := blk_frozen BK109.out 0; have hfz48_1 := blk_frozen BK109.out 1; have hfz48_2 := blk_frozen BK109.out 2) | (go_at_call 50; (with_reducible refine (spec_l15Entry.calls k2 ((rd_T67 l0_2 x22_2).f0) ((rd_T67 l0_2 x22_2).f1) _ _ ((rd_T67 l0_2 x22_2).f2) false _ ?side1 ?side2 A13.out).mono ?_); (case side1 => exact Kd.C_below HR108_2.out (by repeat (first | (with_reducible first | exact HB.out | apply below_alloc | apply pw_below_drewN | apply below_drew1 | refine below_set ?_ GE101.out | refine below_set ?_ GE109.out) | exact HB.out))); (case side2 => exact HC108_2.out); rintro e w49 ⟨rfl, hb⟩; have n0_ := mz (blk_below (g := gb101) (o := .cells #[.string a0_0, .string a0_1, .slice (some ad108) l0_2.length c0_2] 24 (0, 0)) (by (with_reducible repeat (first | refine blk_drewN ?_ _ | refine blk_drew ?_ | refine blk_alloc ?_ _)); refine blk_far ?_ NB101_109.out _; (with_reducible repeat (first | refine blk_drewN ?_ _ | refine blk_drew ?_ | refine blk_alloc ?_ _)); refine blk_far ?_ NB101_109.out _; (with_reducible repeat (first | refine blk_drewN ?_ _ | refine blk_drew ?_ | refine blk_alloc ?_ _)); refine blk_far ?_ NB101_109.out _; (with_reducible repeat (first | refine blk_drewN ?_ _ | refine blk_drew ?_ | refine blk_alloc ?_ _)); exact BK101.out) hb); have n1_ := mz (blk_below (g := gb109) (o := .cells #[.int .i64 ((rd_T67 l0_2 x22_2).f0), .int .i64 ((rd_T67 l0_2 x22_2).f1), .slice A108_2 ((rd_T67 l0_2 x22_2).f2).length c108_2] 67 (0, 0)) (by (with_reducible repeat (first | refine blk_drewN ?_ _ | refine blk_drew ?_ | refine blk_alloc ?_ _)); refine blk_put (cs := #[.int .i64 ((rd_T67 l0_2 x22_2).f0), .int .i64 ((rd_T67 l0_2 x22_2).f1), .slice none 0 0]) ?_ 2 _ rfl; (with_reducible repeat (first | refine blk_drewN ?_ _ | refine blk_drew ?_ | refine blk_alloc ?_ _)); refine blk_put (cs := #[.int .i64 ((rd_T67 l0_2 x22_2).f0), .int .i64 0, .slice none 0 0]) ?_ 1 _ rfl; (with_reducible repeat (first | refine blk_drewN ?_ _ | refine blk_drew ?_ | refine blk_alloc ?_ _)); refine blk_put (cs := #[.int .i64 0, .int .i64 0, .slice none 0 0]) ?_ 0 _ rfl; (with_reducible repeat (first | refine blk_drewN ?_ _ | refine blk_drew ?_ | refine blk_alloc ?_ _)); exact BK109.out) hb); have n2_ := mz (below_step (by repeat (first | (with_reducible first | exact HB.out | apply below_alloc | apply pw_below_drewN | apply below_drew1 | refine below_set ?_ GE101.out | refine below_set ?_ GE109.out) | exact HB.out)) hb); clear BK101; clear BK109; clear HB; have BK101 := n0_; have BK109 := n1_; have HB := n2_; clear n0_ n1_ n2_; (try clear hb); (try clear hb2); (try clear hk); (try clear hi))))
                    go_ret
                    exact ⟨by first | rfl | (simp [errW_none, errW_some] <;> rfl) | (simp [*, errW_none, errW_some] <;> rfl), by repeat (first | (with_reducible first | exact HB.out | apply below_alloc | apply pw_below_drewN | apply below_drew1 | refine below_set ?_ GE101.out | refine below_set ?_ GE109.out) | exact HB.out)⟩
                · rw [if_neg c12] at H
                  exact absurd H (by simp)
              · rw [if_neg c11] at H
                exact absurd H (by simp)
            · rw [if_neg c10] at H
              have c10b0 : decide (x22_2 < (l0_2.length : Int)) = false := decide_eq_false c10
              clear c10
              replace H := be0_ H
              obtain ⟨⟨t103, t106⟩, A500, H⟩ := H
              replace H : (if t106 = true then (if 0 ≤ (wrap64 ((t103.length : Int) - 1)) then (if (wrap64 ((t103.length : Int) - 1)) < (t103.length : Int) then (some ((rdOf ByteArray.empty t103 (wrap64 ((t103.length : Int) - 1))).toList == a0_1.toList)) else (none)) else (none)) else (some false)) = some r := H
              have A50 := mz A500
              clear A500
              by_cases c51 : t106 = true
              · subst c51
                have H1 : (if 0 ≤ (wrap64 ((t103.length : Int) - 1)) then (if (wrap64 ((t103.length : Int) - 1)) < (t103.length : Int) then (some ((rdOf ByteArray.empty t103 (wrap64 ((t103.length : Int) - 1))).toList == a0_1.toList)) else (none)) else (none)) = some r := by rw [if_pos rfl] at H; exact H
                clear H
                have H := H1
                clear H1
                obtain ⟨ji52, hji52⟩ : ∃ j_ : Int, (wrap64 ((t103.length : Int) - 1)) = j_ := ⟨_, rfl⟩
                replace H : (if 0 ≤ (ji52) then (if (ji52) < (t103.length : Int) then (some ((rdOf ByteArray.empty t103 (ji52)).toList == a0_1.toList)) else (none)) else (none)) = some r := by first | (rw [hji52] at H; exact H) | (simp only [hji52] at H ⊢; exact H)
                (try rw [hji52] at A50)
                have hji52w : (IntKind.i64.wrap ((t103.length : Int) - 1)) = ji52 := (i64_w _).trans hji52
                by_cases c53 : 0 ≤ (ji52)
                · rw [if_pos c53] at H
                  have c53b0 : decide (0 ≤ (ji52)) = true := decide_eq_true c53
                  clear c53
                  by_cases c54 : (ji52) < (t103.length : Int)
                  · rw [if_pos c54] at H
                    have c54b0 : decide ((ji52) < (t103.length : Int)) = true := decide_eq_true c54
                    clear c54
                    obtain rfl := Option.some.inj H
                    have hcz55_0 : wr.cell? ⟨gb101, 0, none⟩ = some (.string a0_0) := (blk_cell BK101.out 0).trans rfl
                    have hcz55_1 : wr.cell? ⟨gb101, 1, none⟩ = some (.string a0_1) := (blk_cell BK101.out 1).trans rfl
                    have hcz55_2 : wr.cell? ⟨gb101, 2, none⟩ = some (.slice A0_2 l0_2.length c0_2) := (blk_cell BK101.out 2).trans rfl
                    have hfz55_0 := blk_frozen BK101.out 0
                    have hfz55_1 := blk_frozen BK101.out 1
                    have hfz55_2 := blk_frozen BK101.out 2
                    go_wp2_with (first | (go_at_call 29; (with_reducible refine (spec_l15Texts.calls k2 a0_0 a0_1 _ _ l0_2 t103 true _ ?side1 ?side2 A50.out).mono ?_); (case side1 => repeat (first | exact (Kd.C_below HR0_2.out HB.out) | (with_reducible refine Kd.C_alloc ?_ _) | (with_reducible refine Kd.C_drewN ?_ _) | (with_reducible refine Kd.C_drew ?_))); (case side2 => exact HC0_2.out); rintro e w56 ⟨v104, rfl, ho0, hb⟩; have n0_ := mz (Kd.R_lower ho0 (below_size (by repeat (first | (with_reducible first | exact HB.out | apply below_alloc | apply pw_below_drewN | apply below_drew1 | refine below_set ?_ GE101.out) | exact HB.out)))); have n1_ := mz (blk_below (g := gb101) (o := .cells #[.string a0_0, .string a0_1, .slice A0_2 l0_2.length c0_2] 24 (0, 0)) (by (with_reducible repeat (first | refine blk_drewN ?_ _ | refine blk_drew ?_ | refine blk_alloc ?_ _)); exact BK101.out) hb); have n2_ := mz (below_step (by repeat (first | (with_reducible first | exact HB.out | apply below_alloc | apply pw_below_drewN | apply below_drew1 | refine below_set ?_ GE101.out) | exact HB.out)) hb); clear BK101; clear HB; have HO105 := n0_; have BK101 := n1_; have HB := n2_; clear n0_ n1_ n2_; (try clear hb); (try clear hb2); (try clear hk); (try clear hi); (try clear ho0); obtain ⟨Ao57, co57, eo57⟩ := Kd.R_slice HO105.out; subst eo57; have p107 : 0 ≤ ((ji52) : Int) := of_decide_eq_true (by first | (with_reducible assumption) | assumption); have q107 : (ji52) < (t103.length : Int) := of_decide_eq_true (by first | (with_reducible assumption) | assumption); obtain ⟨ad107, e107, hx107_0⟩ := Kd.at_string (Kd.R_reads' HO105.out).2.2 (ji52) p107 q107; cases e107; replace p107 := eq_true p107; replace q107 := eq_true q107; have hcz58_0 : w56.cell? ⟨gb101, 0, none⟩ = some (.string a0_0) := (blk_cell BK101.out 0).trans rfl; have hcz58_1 : w56.cell? ⟨gb101, 1, none⟩ = some (.string a0_1) := (blk_cell BK101.out 1).trans rfl; have hcz58_2 : w56.cell? ⟨gb101, 2, none⟩ = some (.slice A0_2 l0_2.length c0_2) := (blk_cell BK101.out 2).trans rfl; have hfz58_0 := blk_frozen BK101.out 0; have hfz58_1 := blk_frozen BK101.out 1; have hfz58_2 := blk_frozen BK101.out 2))
                    repeat (go_quiet (first | (go_at_call 29; (with_reducible refine (spec_l15Texts.calls k2 a0_0 a0_1 _ _ l0_2 t103 true _ ?side1 ?side2 A50.out).mono ?_); (case side1 => repeat (first | exact (Kd.C_below HR0_2.out HB.out) | (with_reducible refine Kd.C_alloc ?_ _) | (with_reducible refine Kd.C_drewN ?_ _) | (with_reducible refine Kd.C_drew ?_))); (case side2 => exact HC0_2.out); rintro e w56 ⟨v104, rfl, ho0, hb⟩; have n0_ := mz (Kd.R_lower ho0 (below_size (by repeat (first | (with_reducible first | exact HB.out | apply below_alloc | apply pw_below_drewN | apply below_drew1 | refine below_set ?_ GE101.out) | exact HB.out)))); have n1_ := mz (blk_below (g := gb101) (o := .cells #[.string a0_0, .string a0_1, .slice A0_2 l0_2.length c0_2] 24 (0, 0)) (by (with_reducible repeat (first | refine blk_drewN ?_ _ | refine blk_drew ?_ | refine blk_alloc ?_ _)); exact BK101.out) hb); have n2_ := mz (below_step (by repeat (first | (with_reducible first | exact HB.out | apply below_alloc | apply pw_below_drewN | apply below_drew1 | refine below_set ?_ GE101.out) | exact HB.out)) hb); clear BK101; clear HB; have HO105 := n0_; have BK101 := n1_; have HB := n2_; clear n0_ n1_ n2_; (try clear hb); (try clear hb2); (try clear hk); (try clear hi); (try clear ho0); obtain ⟨Ao57, co57, eo57⟩ := Kd.R_slice HO105.out; subst eo57; have p107 : 0 ≤ ((ji52) : Int) := of_decide_eq_true (by first | (with_reducible assumption) | assumption); have q107 : (ji52) < (t103.length : Int) := of_decide_eq_true (by first | (with_reducible assumption) | assumption); obtain ⟨ad107, e107, hx107_0⟩ := Kd.at_string (Kd.R_reads' HO105.out).2.2 (ji52) p107 q107; cases e107; replace p107 := eq_true p107; replace q107 := eq_true q107; have hcz58_0 : w56.cell? ⟨gb101, 0, none⟩ = some (.string a0_0) := (blk_cell BK101.out 0).trans rfl; have hcz58_1 : w56.cell? ⟨gb101, 1, none⟩ = some (.string a0_1) := (blk_cell BK101.out 1).trans rfl; have hcz58_2 : w56.cell? ⟨gb101, 2, none⟩ = some (.slice A0_2 l0_2.length c0_2) := (blk_cell BK101.out 2).trans rfl; have hfz58_0 := blk_frozen BK101.out 0; have hfz58_1 := blk_frozen BK101.out 1; have hfz58_2 := blk_frozen BK101.out 2)); try go_wp2_with (first | (go_at_call 29; (with_reducible refine (spec_l15Texts.calls k2 a0_0 a0_1 _ _ l0_2 t103 true _ ?side1 ?side2 A50.out).mono ?_); (case side1 => repeat (first | exact (Kd.C_below HR0_2.out HB.out) | (with_reducible refine Kd.C_alloc ?_ _) | (with_reducible refine Kd.C_drewN ?_ _) | (with_reducible refine Kd.C_drew ?_))); (case side2 => exact HC0_2.out); rintro e w56 ⟨v104, rfl, ho0, hb⟩; have n0_ := mz (Kd.R_lower ho0 (below_size (by repeat (first | (with_reducible first | exact HB.out | apply below_alloc | apply pw_below_drewN | apply below_drew1 | refine below_set ?_ GE101.out) | exact HB.out)))); have n1_ := mz (blk_below (g := gb101) (o := .cells #[.string a0_0, .string a0_1, .slice A0_2 l0_2.length c0_2] 24 (0, 0)) (by (with_reducible repeat (first | refine blk_drewN ?_ _ | refine blk_drew ?_ | refine blk_alloc ?_ _)); exact BK101.out) hb); have n2_ := mz (below_step (by repeat (first | (with_reducible first | exact HB.out | apply below_alloc | apply pw_below_drewN | apply below_drew1 | refine below_set ?_ GE101.out) | exact HB.out)) hb); clear BK101; clear HB; have HO105 := n0_; have BK101 := n1_; have HB := n2_; clear n0_ n1_ n2_; (try clear hb); (try clear hb2); (try clear hk); (try clear hi); (try clear ho0); obtain ⟨Ao57, co57, eo57⟩ := Kd.R_slice HO105.out; subst eo57; have p107 : 0 ≤ ((ji52) : Int) := of_decide_eq_true (by first | (with_reducible assumption) | assumption); have q107 : (ji52) < (t103.length : Int) := of_decide_eq_true (by first | (with_reducible assumption) | assumption); obtain ⟨ad107, e107, hx107_0⟩ := Kd.at_string (Kd.R_reads' HO105.out).2.2 (ji52) p107 q107; cases e107; replace p107 := eq_true p107; replace q107 := eq_true q107; have hcz58_0 : w56.cell? ⟨gb101, 0, none⟩ = some (.string a0_0) := (blk_cell BK101.out 0).trans rfl; have hcz58_1 : w56.cell? ⟨gb101, 1, none⟩ = some (.string a0_1) := (blk_cell BK101.out 1).trans rfl; have hcz58_2 : w56.cell? ⟨gb101, 2, none⟩ = some (.slice A0_2 l0_2.length c0_2) := (blk_cell BK101.out 2).trans rfl; have hfz58_0 := blk_frozen BK101.out 0; have hfz58_1 := blk_frozen BK101.out 1; have hfz58_2 := blk_frozen BK101.out 2)))
                    go_ret
                    exact ⟨by first | rfl | (simp [errW_none, errW_some] <;> rfl) | (simp only [← hji52]; first | rfl | (simp [errW_none, errW_some] <;> rfl)) | (simp [*, errW_none, errW_some] <;> rfl), by repeat (first | (with_reducible first | exact HB.out | apply below_alloc | apply pw_below_drewN | apply below_drew1 | refine below_set ?_ GE101.out) | exact HB.out)⟩
                  · rw [if_neg c54] at H
                    exact absurd H (by simp)
                · rw [if_neg c53] at H
                  exact absurd H (by simp)
              · replace c51 := Bool.eq_false_iff.mpr c51
                subst c51
                have H1 : (some false) = some r := by rw [if_neg (show ¬ (false = true) by decide)] at H; exact H
                clear H
                have H := H1
                clear H1
                obtain rfl := Option.some.inj H
                have hcz59_0 : wr.cell? ⟨gb101, 0, none⟩ = some (.string a0_0) := (blk_cell BK101.out 0).trans rfl
                have hcz59_1 : wr.cell? ⟨gb101, 1, none⟩ = some (.string a0_1) := (blk_cell BK101.out 1).trans rfl
                have hcz59_2 : wr.cell? ⟨gb101, 2, none⟩ = some (.slice A0_2 l0_2.length c0_2) := (blk_cell BK101.out 2).trans rfl
                have hfz59_0 := blk_frozen BK101.out 0
                have hfz59_1 := blk_frozen BK101.out 1
                have hfz59_2 := blk_frozen BK101.out 2
                go_wp2_with (first | (go_at_call 29; (with_reducible refine (spec_l15Texts.calls k2 a0_0 a0_1 _ _ l0_2 t103 false _ ?side1 ?side2 A50.out).mono ?_); (case side1 => repeat (first | exact (Kd.C_below HR0_2.out HB.out) | (with_reducible refine Kd.C_alloc ?_ _) | (with_reducible refine Kd.C_drewN ?_ _) | (with_reducible refine Kd.C_drew ?_))); (case side2 => exact HC0_2.out); rintro e w60 ⟨v104, rfl, ho0, hb⟩; have n0_ := mz (Kd.R_lower ho0 (below_size (by repeat (first | (with_reducible first | exact HB.out | apply below_alloc | apply pw_below_drewN | apply below_drew1 | refine below_set ?_ GE101.out) | exact HB.out)))); have n1_ := mz (blk_below (g := gb101) (o := .cells #[.string a0_0, .string a0_1, .slice A0_2 l0_2.length c0_2] 24 (0, 0)) (by (with_reducible repeat (first | refine blk_drewN ?_ _ | refine blk_drew ?_ | refine blk_alloc ?_ _)); exact BK101.out) hb); have n2_ := mz (below_step (by repeat (first | (with_reducible first | exact HB.out | apply below_alloc | apply pw_below_drewN | apply below_drew1 | refine below_set ?_ GE101.out) | exact HB.out)) hb); clear BK101; clear HB; have HO105 := n0_; have BK101 := n1_; have HB := n2_; clear n0_ n1_ n2_; (try clear hb); (try clear hb2); (try clear hk); (try clear hi); (try clear ho0)))
                repeat (go_quiet (first | (go_at_call 29; (with_reducible refine (spec_l15Texts.calls k2 a0_0 a0_1 _ _ l0_2 t103 false _ ?side1 ?side2 A50.out).mono ?_); (case side1 => repeat (first | exact (Kd.C_below HR0_2.out HB.out) | (with_reducible refine Kd.C_alloc ?_ _) | (with_reducible refine Kd.C_drewN ?_ _) | (with_reducible refine Kd.C_drew ?_))); (case side2 => exact HC0_2.out); rintro e w60 ⟨v104, rfl, ho0, hb⟩; have n0_ := mz (Kd.R_lower ho0 (below_size (by repeat (first | (with_reducible first | exact HB.out | apply below_alloc | apply pw_below_drewN | apply below_drew1 | refine below_set ?_ GE101.out) | exact HB.out)))); have n1_ := mz (blk_below (g := gb101) (o := .cells #[.string a0_0, .string a0_1, .slice A0_2 l0_2.length c0_2] 24 (0, 0)) (by (with_reducible repeat (first | refine blk_drewN ?_ _ | refine blk_drew ?_ | refine blk_alloc ?_ _)); exact BK101.out) hb); have n2_ := mz (below_step (by repeat (first | (with_reducible first | exact HB.out | apply below_alloc | apply pw_below_drewN | apply below_drew1 | refine below_set ?_ GE101.out) | exact HB.out)) hb); clear BK101; clear HB; have HO105 := n0_; have BK101 := n1_; have HB := n2_; clear n0_ n1_ n2_; (try clear hb); (try clear hb2); (try clear hk); (try clear hi); (try clear ho0))); try go_wp2_with (first | (go_at_call 29; (with_reducible refine (spec_l15Texts.calls k2 a0_0 a0_1 _ _ l0_2 t103 false _ ?side1 ?side2 A50.out).mono ?_); (case side1 => repeat (first | exact (Kd.C_below HR0_2.out HB.out) | (with_reducible refine Kd.C_alloc ?_ _) | (with_reducible refine Kd.C_drewN ?_ _) | (with_reducible refine Kd.C_drew ?_))); (case side2 => exact HC0_2.out); rintro e w60 ⟨v104, rfl, ho0, hb⟩; have n0_ := mz (Kd.R_lower ho0 (below_size (by repeat (first | (with_reducible first | exact HB.out | apply below_alloc | apply pw_below_drewN | apply below_drew1 | refine below_set ?_ GE101.out) | exact HB.out)))); have n1_ := mz (blk_below (g := gb101) (o := .cells #[.string a0_0, .string a0_1, .slice A0_2 l0_2.length c0_2] 24 (0, 0)) (by (with_reducible repeat (first | refine blk_drewN ?_ _ | refine blk_drew ?_ | refine blk_alloc ?_ _)); exact BK101.out) hb); have n2_ := mz (below_step (by repeat (first | (with_reducible first | exact HB.out | apply below_alloc | apply pw_below_drewN | apply below_drew1 | refine below_set ?_ GE101.out) | exact HB.out)) hb); clear BK101; clear HB; have HO105 := n0_; have BK101 := n1_; have HB := n2_; clear n0_ n1_ n2_; (try clear hb); (try clear hb2); (try clear hk); (try clear hi); (try clear ho0))))
                go_ret
                exact ⟨by first | rfl | (simp [errW_none, errW_some] <;> rfl) | (simp [*, errW_none, errW_some] <;> rfl), by repeat (first | (with_reducible first | exact HB.out | apply below_alloc | apply pw_below_drewN | apply below_drew1 | refine below_set ?_ GE101.out) | exact HB.out)⟩
end
abbrev Entry := S67
def entryB (e : Entry) : Bool := decide (0 ≤ e.f0) && decide (e.f0 ≤ 9) && decide (1 ≤ e.f1) && decide (e.f1 ≤ 1000) && opB e.f2
theorem entryB_of {e : Entry} (h : entryB e = true) : 0 ≤ e.f0 ∧ e.f0 ≤ 9 ∧ 1 ≤ e.f1 ∧ e.f1 ≤ 1000 ∧ opB e.f2 = true := by
  simp only [entryB, Bool.and_eq_true, decide_eq_true_eq] at h
  exact ⟨h.1.1.1.1, h.1.1.1.2, h.1.1.2, h.1.2, h.2⟩
theorem isEntry_ev (e : Entry) (hs : sizedP e.f2 = true) : Ev (fun k => impl_isEntry.f k e.f0 e.f1 e.f2) (entryB e) := by
  unfold impl_isEntry.f entryB
  by_cases a : 0 ≤ e.f0
  · simp only [if_pos (show e.f0 ≥ 0 from a), decide_eq_true a]
    by_cases b : e.f0 ≤ 9
    · simp only [if_pos b, decide_eq_true b]
      by_cases c : 1 ≤ e.f1
      · simp only [if_pos (show e.f1 ≥ 1 from c), decide_eq_true c]
        by_cases d : e.f1 ≤ 1000
        · simp only [if_pos d, decide_eq_true d, Bool.true_and, Bool.and_self]
          exact Ev.bind (implGoodOp_ev e.f2 hs) (Ev.now _)
        · simp only [if_neg d, decide_eq_false d, Bool.and_false, Bool.false_and]; exact Ev.now _
      · simp only [if_neg (show ¬ e.f1 ≥ 1 from c), decide_eq_false c, Bool.and_false, Bool.false_and]; exact Ev.now _
    · simp only [if_neg b, decide_eq_false b, Bool.and_false, Bool.false_and]; exact Ev.now _
  · simp only [if_neg (show ¬ e.f0 ≥ 0 from a), decide_eq_false a, Bool.false_and]; exact Ev.now _
theorem l1In_val (n lo hi : Int) : spec_l1In.f n lo hi = some (decide (lo ≤ n) && decide (n ≤ hi)) := by
  unfold spec_l1In.f
  by_cases a : lo ≤ n
  · simp only [if_pos (show n ≥ lo from a), decide_eq_true a, Bool.true_and]
  · simp only [if_neg (show ¬ n ≥ lo from a), decide_eq_false a, Bool.false_and]
theorem specEntry_ev (e : Entry) (hs : sizedP e.f2 = true) : Ev (fun k => spec_l15Entry.f k e.f0 e.f1 e.f2) (entryB e) := by
  unfold spec_l15Entry.f entryB
  simp only [l1In_val, Option.bind_some]
  cases a : (decide (0 ≤ e.f0) && decide (e.f0 ≤ 9)) with
  | false => simp only [Bool.false_eq_true, if_false, Bool.false_and]; exact Ev.now _
  | true =>
    simp only [if_true, Bool.true_and]
    cases b : (decide (1 ≤ e.f1) && decide (e.f1 ≤ 1000)) with
    | false => simp only [Bool.false_eq_true, if_false, Bool.false_and]; exact Ev.now _
    | true =>
      simp only [if_true, Bool.true_and]
      exact Ev.bind (specGoodOp_ev e.f2 hs) (Ev.now _)

def sizedL (l : List Entry) : Bool := l.all fun e => sizedP e.f2
theorem sizedL_of {l : List Entry} (h : sizedL l = true) : ∀ e ∈ l, sizedP e.f2 = true := by simpa [sizedL] using h
theorem rd_entry (l : List Entry) (i : Nat) (h : i < l.length) : rd_T67 l (i : Int) = l[i] := by
  simp [rd_T67, List.getD_eq_getElem?_getD, h]
def lastB (c : Int) (l : List Entry) (m : Int) : Int := l.foldl (fun m e => if e.f0 = c then mx m e.f1 else m) m
theorem lastB_cons (c : Int) (e : Entry) (l : List Entry) (m : Int) : lastB c (e :: l) m = lastB c l (if e.f0 = c then mx m e.f1 else m) := rfl
theorem lastB_append (c : Int) (a b : List Entry) (m : Int) : lastB c (a ++ b) m = lastB c b (lastB c a m) := by simp [lastB]
theorem lastB_ge (c s : Int) (l : List Entry) : ∀ m, s ≤ lastB c l m ↔ s ≤ m ∨ ∃ e ∈ l, e.f0 = c ∧ s ≤ e.f1 := by
  induction l with
  | nil => intro m; simp [lastB]
  | cons e l ih =>
    intro m
    rw [lastB_cons, ih]
    simp only [List.mem_cons, exists_eq_or_imp]
    by_cases h : e.f0 = c
    · rw [if_pos h]
      have : s ≤ mx m e.f1 ↔ s ≤ m ∨ s ≤ e.f1 := by unfold mx; split <;> omega
      rw [this]
      simp only [h, true_and]
      exact or_assoc
    · rw [if_neg h]
      simp only [h, false_and, false_or]
theorem lastSeq_loop (l : List Entry) (c : Int) (hm : l.length ≤ 9223372036854775807) (d : Nat) : ∀ (i : Nat) (m : Int), i + d = l.length → Ev (fun k => impl_lastSeq.l0 k c m l (l.length : Int) (i : Int)) (lastB c (l.drop i) m) := by
  induction d with
  | zero =>
    intro i m h
    refine Ev.succ ?_
    simp only [impl_lastSeq.l0, if_neg (show ¬ ((i : Int) < (l.length : Int)) by omega)]
    rw [List.drop_eq_nil_of_le (by omega)]
    exact Ev.now _
  | succ d ih =>
    intro i m h
    have hi : i < l.length := by omega
    have e : l.drop i = l[i] :: l.drop (i + 1) := List.drop_eq_getElem_cons hi
    refine Ev.succ ?_
    simp only [impl_lastSeq.l0, if_pos (show ((i : Int) < (l.length : Int)) by omega), if_pos (show (0 : Int) ≤ i by omega), rd_entry l i hi, w64 (show -9223372036854775808 ≤ (i : Int) + 1 by omega) (by omega)]
    rw [e, lastB_cons]
    by_cases q : (l[i]).f0 = c
    · simp only [if_pos q]; exact ih (i + 1) _ (by omega)
    · simp only [if_neg q]; exact ih (i + 1) _ (by omega)
theorem lastSeq_ev (l : List Entry) (c : Int) (hm : l.length ≤ 9223372036854775807) : Ev (fun k => impl_lastSeq.f k l c) (lastB c l 0) := by
  have := lastSeq_loop l c hm l.length 0 0 (by omega)
  simpa [impl_lastSeq.f] using this

def okAt (l : List Entry) (i : Nat) (e : Entry) : Bool := entryB e && !((l.take i).any fun o => decide (o.f0 = e.f0) && decide (e.f1 ≤ o.f1))
def okFrom (l : List Entry) : List Entry → Nat → Bool
  | [], _ => true
  | e :: r, i => okAt l i e && okFrom l r (i + 1)
theorem okFrom_mem (l : List Entry) (r : List Entry) : ∀ i, okFrom l r i = true → ∀ j (h : j < r.length), okAt l (i + j) r[j] = true := by
  induction r with
  | nil => intro i _ j h; simp at h
  | cons e r ih =>
    intro i h j hj
    simp only [okFrom, Bool.and_eq_true] at h
    cases j with
    | zero => exact h.1
    | succ j =>
      have := ih (i + 1) h.2 j (by simpa using hj)
      rw [show i + (j + 1) = i + 1 + j by omega]
      simpa using this
theorem okFrom_ops {l : List Entry} (h : okFrom l l 0 = true) : ∀ e ∈ l, entryB e = true := by
  intro e he
  obtain ⟨i, hi, rfl⟩ := List.getElem_of_mem he
  have := okFrom_mem l l 0 h i hi
  simp only [okAt, Bool.and_eq_true] at this
  exact this.1
theorem clash_last (l : List Entry) (i : Nat) (e : Entry) (h : 1 ≤ e.f1) : ((l.take i).any fun o => decide (o.f0 = e.f0) && decide (e.f1 ≤ o.f1)) = decide (e.f1 ≤ lastB e.f0 (l.take i) 0) := by
  rw [Bool.eq_iff_iff, decide_eq_true_eq, lastB_ge, List.any_eq_true]
  constructor
  · rintro ⟨o, ho, h2⟩
    simp only [Bool.and_eq_true, decide_eq_true_eq] at h2
    exact .inr ⟨o, ho, h2⟩
  · rintro (h2 | ⟨o, ho, h2⟩)
    · omega
    · exact ⟨o, ho, by simpa using h2⟩

def runB : List Entry → ByteArray → ByteArray × Bool
  | [], t => (t, true)
  | e :: l, t => if (applyV e.f2 t).2 = true then runB l (applyV e.f2 t).1 else (⟨#[]⟩, false)
def goodB (a t : ByteArray) (l : List Entry) : Bool := textB a && decide (l.length ≤ 60) && okFrom l l 0 && (runB l a).2 && decide ((runB l a).1 = t)
def textsB : List Entry → ByteArray → List ByteArray → List ByteArray × Bool
  | [], _, acc => (acc, true)
  | e :: l, t, acc => if (appB e.f2 t ⟨#[]⟩).2 = true ∧ textB (appB e.f2 t ⟨#[]⟩).1 = true then textsB l (appB e.f2 t ⟨#[]⟩).1 (acc ++ [(appB e.f2 t ⟨#[]⟩).1]) else ([], false)
theorem texts_run (l : List Entry) : ∀ (t : ByteArray) (acc : List ByteArray), (∀ e ∈ l, opB e.f2 = true) → textB t = true →
    (textsB l t acc).2 = (runB l t).2 ∧ ((textsB l t acc).2 = true → ∃ ts, (textsB l t acc).1 = acc ++ ts ∧ ts.length = l.length ∧ ∀ j, j ≤ l.length → (runB (l.take j) t).2 = true ∧ (t :: ts)[j]? = some (runB (l.take j) t).1) := by
  induction l with
  | nil =>
    intro t acc _ ht
    refine ⟨rfl, fun _ => ⟨[], by simp [textsB], rfl, fun j hj => ?_⟩⟩
    have : j = 0 := by simpa using hj
    subst this
    exact ⟨rfl, rfl⟩
  | cons e l ih =>
    intro t acc ho ht
    have oe := ho e List.mem_cons_self
    have hav : applyV e.f2 t = ansB (appB e.f2 t ⟨#[]⟩) := by simp [applyV, oe, ht]
    cases q : (appB e.f2 t ⟨#[]⟩).2 with
    | false =>
      have h1 : (applyV e.f2 t).2 = false := by rw [hav]; simp [ansB, q]
      refine ⟨by simp [textsB, runB, q, h1], fun h => ?_⟩
      simp [textsB, q] at h
    | true =>
      have tt := appB_text oe ht q
      have h1 : applyV e.f2 t = ((appB e.f2 t ⟨#[]⟩).1, true) := by rw [hav]; simp [ansB, q]
      obtain ⟨i1, i2⟩ := ih (appB e.f2 t ⟨#[]⟩).1 (acc ++ [(appB e.f2 t ⟨#[]⟩).1]) (fun x hx => ho x (List.mem_cons_of_mem _ hx)) tt
      have ht1 : textsB (e :: l) t acc = textsB l (appB e.f2 t ⟨#[]⟩).1 (acc ++ [(appB e.f2 t ⟨#[]⟩).1]) := by simp [textsB, q, tt]
      have hr1 : ∀ r, runB (e :: r) t = runB r (appB e.f2 t ⟨#[]⟩).1 := fun r => by simp [runB, h1]
      rw [ht1, hr1]
      refine ⟨i1, fun h => ?_⟩
      obtain ⟨ts, e1, e2, e3⟩ := i2 h
      refine ⟨(appB e.f2 t ⟨#[]⟩).1 :: ts, by rw [e1]; simp, by simp [e2], fun j hj => ?_⟩
      cases j with
      | zero => exact ⟨rfl, rfl⟩
      | succ j =>
        rw [List.take_succ_cons, hr1]
        have := e3 j (by simpa using hj)
        exact ⟨this.1, by simpa using this.2⟩
theorem texts_loop (l : List Entry) (hl : l.length ≤ 60) (ho : ∀ e ∈ l, opB e.f2 = true) (d : Nat) : ∀ (i : Nat) (acc : List ByteArray) (t : ByteArray), i + d = l.length → acc.length = i + 1 → 
    Ev (fun k => spec_l15Texts.l0 k acc t l (l.length : Int) (i : Int)) (textsB (l.drop i) t acc) := by
  induction d with
  | zero =>
    intro i acc t h _
    refine Ev.succ ?_
    simp only [spec_l15Texts.l0, if_neg (show ¬ ((i : Int) < (l.length : Int)) by omega)]
    rw [List.drop_eq_nil_of_le (by omega)]
    exact Ev.now _
  | succ d ih =>
    intro i acc t h ha
    have hi : i < l.length := by omega
    have e : l.drop i = l[i] :: l.drop (i + 1) := List.drop_eq_getElem_cons hi
    obtain ⟨o1, o2, o3, o4⟩ := opB_of (ho l[i] (List.getElem_mem hi))
    refine Ev.succ ?_
    simp only [spec_l15Texts.l0, if_pos (show ((i : Int) < (l.length : Int)) by omega), if_pos (show (0 : Int) ≤ i by omega), rd_entry l i hi, w64 (show -9223372036854775808 ≤ (i : Int) + 1 by omega) (by omega)]
    refine Ev.bind (specApply_ev l[i].f2 t o1 o2) ?_
    rw [e]
    cases q : (appB l[i].f2 t ⟨#[]⟩).2 with
    | false =>
      simp only [Bool.false_eq_true, if_false, textsB, q, false_and]
      exact Ev.now _
    | true =>
      have hz := (appB_size l[i].f2 t ⟨#[]⟩ q).2
      have e0 : (⟨#[]⟩ : ByteArray).size = 0 := rfl
      simp only [if_true]
      refine Ev.bind (specText_ev (appB l[i].f2 t ⟨#[]⟩).1 (by simp only [maxLen]; omega)) ?_
      cases q2 : textB (appB l[i].f2 t ⟨#[]⟩).1 with
      | false =>
        simp only [Bool.false_eq_true, if_false, textsB, q, q2, and_false]
        exact Ev.now _
      | true =>
        simp only [if_true, textsB, q, q2, and_self, if_pos (show acc.length < 8796093022208 by omega)]
        exact ih (i + 1) _ _ (by omega) (by simp [ha])
theorem texts_ev (a t : ByteArray) (l : List Entry) (hl : l.length ≤ 60) (ho : ∀ e ∈ l, opB e.f2 = true) : Ev (fun k => spec_l15Texts.f k a t l) (textsB l a [a]) := by
  have := texts_loop l hl ho l.length 0 [a] a (by omega) rfl
  simpa [spec_l15Texts.f] using this

theorem specGoodServer_inner (l : List Entry) (a t : ByteArray) (i : Nat) (e : Entry) (p : List Entry) (hp : p.length ≤ 60) (R : Bool) (hR : Ev (fun k => spec_GoodServer.l0 k l (l.length : Int) (wrap64 ((i : Int) + 1)) a t l) R) (d : Nat) : ∀ j : Nat, j + d = p.length →
    Ev (fun k => spec_GoodServer.l1 k l (l.length : Int) (i : Int) p (p.length : Int) (j : Int) a t l e.f0 e.f1 e.f2) (if ((p.drop j).any fun o => decide (o.f0 = e.f0) && decide (e.f1 ≤ o.f1)) = true then false else R) := by
  induction d with
  | zero =>
    intro j h
    refine Ev.succ ?_
    simp only [spec_GoodServer.l1, if_neg (show ¬ ((j : Int) < (p.length : Int)) by omega)]
    rw [List.drop_eq_nil_of_le (by omega)]
    exact ev_eq hR (by simp)
  | succ d ih =>
    intro j h
    have hj : j < p.length := by omega
    have ee : p.drop j = p[j] :: p.drop (j + 1) := List.drop_eq_getElem_cons hj
    refine Ev.succ ?_
    simp only [spec_GoodServer.l1, if_pos (show ((j : Int) < (p.length : Int)) by omega), if_pos (show (0 : Int) ≤ j by omega), rd_entry p j hj, w64 (show -9223372036854775808 ≤ (j : Int) + 1 by omega) (by omega)]
    rw [ee, List.any_cons]
    by_cases q : (p[j]).f0 = e.f0
    · by_cases q2 : e.f1 ≤ (p[j]).f1
      · simp only [if_pos q, if_pos (show (p[j]).f1 ≥ e.f1 from q2), decide_eq_true q, decide_eq_true q2, Bool.and_self, Bool.true_or, if_true]
        exact Ev.now _
      · simp only [if_pos q, if_neg (show ¬ (p[j]).f1 ≥ e.f1 from q2), decide_eq_true q, decide_eq_false q2, Bool.and_false, Bool.false_or]
        exact ih (j + 1) (by omega)
    · simp only [if_neg q, decide_eq_false q, Bool.false_and, Bool.false_or]
      exact ih (j + 1) (by omega)
theorem specGoodServer_loop (l : List Entry) (a t : ByteArray) (hl : l.length ≤ 60) (ha : textB a = true) (hs : sizedL l = true) (d : Nat) : ∀ i : Nat, i + d = l.length → (∀ e ∈ l.take i, entryB e = true) →
    Ev (fun k => spec_GoodServer.l0 k l (l.length : Int) (i : Int) a t l) (okFrom l (l.drop i) i && (runB l a).2 && decide ((runB l a).1 = t)) := by
  induction d with
  | zero =>
    intro i h hg
    rw [List.take_of_length_le (by omega)] at hg
    have ho : ∀ e ∈ l, opB e.f2 = true := fun e he => (entryB_of (hg e he)).2.2.2.2
    refine Ev.succ ?_
    simp only [spec_GoodServer.l0, if_neg (show ¬ ((i : Int) < (l.length : Int)) by omega)]
    rw [List.drop_eq_nil_of_le (by omega)]
    refine Ev.bind (texts_ev a t l hl ho) ?_
    obtain ⟨t1, t2⟩ := texts_run l a [a] ho ha
    simp only [okFrom, Bool.true_and]
    cases q : (textsB l a [a]).2 with
    | false =>
      rw [← t1, q]
      simp only [Bool.false_eq_true, if_false, Bool.false_and]
      exact Ev.now _
    | true =>
      rw [← t1, q]
      obtain ⟨ts, e1, e2, e3⟩ := t2 q
      have e4 := e3 l.length (Nat.le_refl _)
      rw [List.take_length] at e4
      have hlen : (textsB l a [a]).1.length = l.length + 1 := by rw [e1]; simp [e2]
      simp only [if_true, Bool.true_and, hlen]
      rw [w64 (by omega) (by omega)]
      simp only [if_pos (show (0 : Int) ≤ ((l.length + 1 : Nat) : Int) - 1 by omega), if_pos (show ((l.length + 1 : Nat) : Int) - 1 < ((l.length + 1 : Nat) : Int) by omega)]
      rw [show ((l.length + 1 : Nat) : Int) - 1 = (l.length : Int) by omega, rdOf_get _ _ _ (by omega)]
      have e5 : (textsB l a [a]).1[l.length]'(by omega) = (runB l a).1 := by
        have := e4.2
        rw [← List.singleton_append, ← e1, List.getElem?_eq_getElem (by omega)] at this
        exact Option.some.inj this
      rw [e5]
      refine ev_eq (Ev.now _) ?_
      rw [Bool.eq_iff_iff, beq_iff_eq, toList_inj, decide_eq_true_eq]
  | succ d ih =>
    intro i h hg
    have hi : i < l.length := by omega
    have e : l.drop i = l[i] :: l.drop (i + 1) := List.drop_eq_getElem_cons hi
    refine Ev.succ ?_
    simp only [spec_GoodServer.l0, if_pos (show ((i : Int) < (l.length : Int)) by omega), if_pos (show (0 : Int) ≤ i by omega), rd_entry l i hi]
    refine Ev.bind (specEntry_ev l[i] (sizedL_of hs _ (List.getElem_mem hi))) ?_
    rw [e, okFrom, okAt]
    cases q : entryB l[i] with
    | false =>
      simp only [Bool.false_eq_true, if_false, Bool.false_and]
      exact Ev.now _
    | true =>
      have hR := ih (i + 1) (by omega) (by
        intro x hx
        rw [List.take_succ_eq_append_getElem hi] at hx
        rcases List.mem_append.1 hx with hx | hx
        · exact hg x hx
        · rw [List.mem_singleton.1 hx]; exact q)
      have hR' : Ev (fun k => spec_GoodServer.l0 k l (l.length : Int) (wrap64 ((i : Int) + 1)) a t l) (okFrom l (l.drop (i + 1)) (i + 1) && (runB l a).2 && decide ((runB l a).1 = t)) := by
        rw [w64 (by omega) (by omega)]; exact hR
      simp only [if_true, if_pos (show (i : Int) ≤ (l.length : Int) by omega), Option.bind_some, Int.toNat_natCast, Bool.true_and]
      have hin := specGoodServer_inner l a t i l[i] (l.take i) (by simp; omega) _ hR' (l.take i).length 0 (by omega)
      refine ev_eq hin ?_
      rw [List.drop_zero]
      cases ((l.take i).any fun o => decide (o.f0 = (l[i]).f0) && decide ((l[i]).f1 ≤ o.f1)) <;> simp
theorem specGoodServer_ev (a t : ByteArray) (l : List Entry) (ha : a.size ≤ maxLen) (hs : sizedL l = true) : Ev (fun k => spec_GoodServer.f k a t l) (goodB a t l) := by
  unfold spec_GoodServer.f goodB
  refine Ev.bind (specText_ev a ha) ?_
  cases q : textB a with
  | false =>
    simp only [Bool.false_eq_true, if_false, Bool.false_and]
    refine Ev.succ ?_
    simp only [spec_GoodServer.j0, if_true]
    exact Ev.now _
  | true =>
    simp only [if_true, Bool.true_and]
    refine Ev.succ ?_
    by_cases b : l.length ≤ 60
    · simp only [spec_GoodServer.j0, decide_eq_false (show ¬ (l.length : Int) > 60 by omega), Bool.false_eq_true, if_false, decide_eq_true b, Bool.true_and]
      have := specGoodServer_loop l a t b q hs l.length 0 (by omega) (by simp)
      simpa using this
    · simp only [spec_GoodServer.j0, decide_eq_true (show (l.length : Int) > 60 by omega), if_true, decide_eq_false b, Bool.false_and]
      exact Ev.now _
theorem goodB_of {a t : ByteArray} {l : List Entry} (h : goodB a t l = true) : textB a = true ∧ l.length ≤ 60 ∧ okFrom l l 0 = true ∧ (runB l a).2 = true ∧ (runB l a).1 = t ∧ ∀ e ∈ l, entryB e = true := by
  simp only [goodB, Bool.and_eq_true, decide_eq_true_eq] at h
  exact ⟨h.1.1.1.1, h.1.1.1.2, h.1.1.2, h.1.2, h.2, okFrom_ops h.1.1.2⟩
theorem applyV_size (l : List Part) (t : ByteArray) : (applyV l t).1.size ≤ 300 := by
  unfold applyV
  by_cases h : opB l = true ∧ textB t = true
  · rw [if_pos h]
    unfold ansB
    by_cases q : (appB l t ⟨#[]⟩).2 = true
    · rw [if_pos q]
      have := textB_size (appB_text h.1 h.2 q)
      exact this
    · rw [if_neg q]; exact Nat.zero_le _
  · rw [if_neg h]; exact Nat.zero_le _

set_option maxHeartbeats 4000000 in
set_option maxRecDepth 100000 in
theorem textAt_cells (g : Nat) (a : ByteArray) (A : Option Addr) (c : Nat) (l : List Entry) (v : Nat) (w : World) (x0 : w.cell? ⟨g, 0, none⟩ = some (.string a)) (x2 : w.cell? ⟨g, 2, none⟩ = some (.slice A l.length c))
    (hr : Kd.C k67 w A l.length l) (hc : l.length ≤ c) (hv : v ≤ l.length) (hs : sizedL l = true) (ha : a.size ≤ maxLen) :
    Calls Try.prog 56 #[.pointer (some ⟨g, 0, none⟩), .int .i64 v] w fun e w' => e = .returned (.tuple #[.string (runB (l.take v) a).1, .bool (runB (l.take v) a).2]) ∧ Below w.heap.size w w' := by
  have hlen : l.length ≤ 9223372036854775807 := hr.2.1
  have HR := mz hr
  have HS := mz hs
  have HL := mz hlen
  clear hr hs hlen
  have v0 : (0 : Int) ≤ (v : Int) := by omega
  have v1 : (v : Int) ≤ (c : Int) := by omega
  go_enter Try.func56, Try.ntmps56
  go_wp2
  go_loopg [6, 21] v (fun gg s6 s21 wr => ∃ (kk : Nat) (u : ByteArray), kk ≤ v ∧ v - kk ≤ gg ∧ s6 = .string u ∧ s21 = .int .i64 kk ∧ Aside0 (u.size ≤ maxLen) ∧ Aside0 (Below w.heap.size w wr) ∧ Aside0 (runB (l.take v) a = runB ((l.take v).drop kk) u))
  case atStart => exact ⟨0, a, Nat.zero_le _, by omega, rfl, rfl, ⟨ha⟩, ⟨Below.refl _ w⟩, ⟨rfl⟩⟩
  case round =>
    obtain ⟨kk, u, hkk, hg, rfl, rfl, US, BW, RN⟩ := hrel
    by_cases hlt : kk < v
    · have hltz : (kk : Int) < (v : Int) := by omega
      have hk2 : kk < l.length := by omega
      obtain ⟨ad, A2, c2, e1, hx0, hx1, hx2, hl2, hi2⟩ := at_T67 (Kd.C_below HR.out BW.out) (kk : Int) (by omega) (by omega)
      cases e1
      rw [rd_entry l kk hk2] at hx0 hx1 hx2 hl2 hi2
      rw [Int.toNat_natCast] at hx0 hx1 hx2
      have hsz := sizedL_of HS.out l[kk] (List.getElem_mem hk2)
      have hdr : (l.take v).drop kk = l[kk] :: (l.take v).drop (kk + 1) := by
        rw [List.drop_eq_getElem_cons (by simp; omega)]
        simp
      have RN2 := RN.out
      rw [hdr] at RN2
      clear RN hdr
      generalize l[kk] = y at hx0 hx1 hx2 hl2 hi2 hsz RN2
      obtain ⟨K, hK⟩ := Ev.rounds (implApply_ev y.f2 u hsz US.out)
      have hQ := applyV_size y.f2 u
      have hrun : runB (y :: (l.take v).drop (kk + 1)) u = if (applyV y.f2 u).2 = true then runB ((l.take v).drop (kk + 1)) (applyV y.f2 u).1 else (⟨#[]⟩, false) := rfl
      rw [hrun] at RN2
      clear hrun
      generalize applyV y.f2 u = q at hK hQ RN2
      obtain ⟨q1, q2⟩ := q
      have HK := mz hK
      have HI2 := mz hi2
      have HL2 := mz hl2
      have HQ := mz hQ
      have HRN := mz RN2
      have HWS : Aside0 (w.heap.size ≤ wr.heap.size) := ⟨BW.out.size⟩
      clear hK hi2 hl2 hQ RN2 hsz
      cases q2 with
      | true =>
        go_wp2_with (go_at_call 58; refine (impl_ApplyOp.calls K A2 c2 y.f2 u q1 true _ ?s1 HL2.out HK.out).mono ?_; (case s1 => exact Kd.C_below HI2.out (by repeat (first | exact Below.refl _ _ | apply below_alloc | apply pw_below_drewN | apply below_drew1 | refine below_set ?_ (Nat.le_refl _)))); rintro e w' ⟨rfl, hb'⟩; have HB2 := mz (below_step (by repeat (first | exact BW.out | apply below_alloc | apply pw_below_drewN | apply below_drew1 | refine below_set ?_ HWS.out)) hb'); clear hb')
        go_roundg (v - (kk + 1))
        case measure => omega
        case rel => have hl64 := HL.out; exact ⟨kk + 1, q1, by omega, by omega, rfl, by (first | go_num | (congr 1; unfold wrap64; omega)), ⟨Nat.le_trans HQ.out (by unfold maxLen; omega)⟩, ⟨HB2.out⟩, ⟨HRN.out⟩⟩
      | false =>
        go_wp2_with (go_at_call 58; refine (impl_ApplyOp.calls K A2 c2 y.f2 u q1 false _ ?s1 HL2.out HK.out).mono ?_; (case s1 => exact Kd.C_below HI2.out (by repeat (first | exact Below.refl _ _ | apply below_alloc | apply pw_below_drewN | apply below_drew1 | refine below_set ?_ (Nat.le_refl _)))); rintro e w' ⟨rfl, hb'⟩; have HB2 := mz (below_step (by repeat (first | exact BW.out | apply below_alloc | apply pw_below_drewN | apply below_drew1 | refine below_set ?_ HWS.out)) hb'); clear hb')
        go_ret2
        rw [HRN.out]
        exact ⟨rfl, HB2.out⟩
    · have hltz : ¬ (kk : Int) < (v : Int) := by omega
      have e : kk = v := by omega
      subst e
      go_wp2
      go_ret2
      have h3 := RN.out
      rw [List.drop_eq_nil_of_le (by rw [List.length_take]; omega)] at h3
      rw [h3]
      exact ⟨rfl, BW.out⟩

theorem textAt_walk (g : Nat) (a t : ByteArray) (A : Option Addr) (c : Nat) (l : List Entry) (v : Nat) (w : World) (hblk : w.heap[g]? = some (.cells #[.string a, .string t, .slice A l.length c] 24 (0, 0)))
    (hr : Kd.C k67 w A l.length l) (hc : l.length ≤ c) (hv : v ≤ l.length) (hs : sizedL l = true) (ha : a.size ≤ maxLen) :
    Calls Try.prog 56 #[.pointer (some ⟨g, 0, none⟩), .int .i64 v] w fun e w' => e = .returned (.tuple #[.string (runB (l.take v) a).1, .bool (runB (l.take v) a).2]) ∧ Below w.heap.size w w' :=
  textAt_cells g a A c l v w ((blk_cell hblk 0).trans rfl) ((blk_cell hblk 2).trans rfl) hr hc hv hs ha
theorem lastSeq_at (A : Option Addr) (c : Nat) (l : List Entry) (kk : Nat) (cl : Int) (w : World) (hr : Kd.C k67 w A l.length l) (hc : l.length ≤ c) (hk : kk ≤ l.length) :
    Calls Try.prog 55 #[.slice A kk c, .int .i64 cl] w fun e w' => e = .returned (.int .i64 (lastB cl (l.take kk) 0)) ∧ Below w.heap.size w w' := by
  have hT : (l.take kk).length = kk := by rw [List.length_take]; omega
  have hm := hr.2.1
  obtain ⟨K, hK⟩ := Ev.rounds (lastSeq_ev (l.take kk) cl (by omega))
  have := impl_lastSeq.calls K A c (l.take kk) cl _ w (Kd.C_take hr hk) (by omega) hK
  rwa [hT] at this
theorem okFrom_step (l : List Entry) (kk : Nat) (h : kk < l.length) : okFrom l (l.drop kk) kk = (okAt l kk l[kk] && okFrom l (l.drop (kk + 1)) (kk + 1)) := by
  rw [List.drop_eq_getElem_cons h]; rfl
theorem goodB_short {a t : ByteArray} {l : List Entry} (ha : textB a = true) (hl : l.length ≤ 60) : goodB a t l = (okFrom l l 0 && (runB l a).2 && decide ((runB l a).1 = t)) := by
  simp [goodB, ha, hl]

def Facts (wr : World) (gb gb2 c c2 n n2 : Nat) (A A2 : Option Addr) (f0 f1 : Int) (W : World) : Prop :=
  W.cell? ⟨gb2, 0, none⟩ = some (.int .i64 f0) ∧ W.cell? ⟨gb2, 1, none⟩ = some (.int .i64 f1) ∧ W.cell? ⟨gb2, 2, none⟩ = some (.slice A2 n2 c2) ∧ W.cell? ⟨gb, 2, none⟩ = some (.slice A n c) ∧ Below wr.heap.size wr W
theorem drew_facts {wr W : World} {gb gb2 c c2 n n2 : Nat} {A A2 : Option Addr} {f0 f1 : Int} (h : Facts wr gb gb2 c c2 n n2 A A2 f0 f1 W) : Facts wr gb gb2 c c2 n n2 A A2 f0 f1 W.drew :=
  ⟨h.1, h.2.1, h.2.2.1, h.2.2.2.1, below_drew1 h.2.2.2.2⟩
theorem step_facts {wr W w1 : World} {gb gb2 c c2 n n2 : Nat} {A A2 : Option Addr} {f0 f1 : Int} (h : Facts wr gb gb2 c c2 n n2 A A2 f0 f1 W) (hb : Below W.heap.size W w1) : Facts wr gb gb2 c c2 n n2 A A2 f0 f1 w1 :=
  ⟨(hb.cell (World.block_lt_of_cell? W _ h.1)).trans h.1, (hb.cell (World.block_lt_of_cell? W _ h.2.1)).trans h.2.1, (hb.cell (World.block_lt_of_cell? W _ h.2.2.1)).trans h.2.2.1, (hb.cell (World.block_lt_of_cell? W _ h.2.2.2.1)).trans h.2.2.2.1, below_step h.2.2.2.2 hb⟩
theorem set_facts {wr w3 : World} {gb gb2 c c2 n : Nat} {a t : ByteArray} {A A2 : Option Addr} {n2 : Nat} {f0 f1 : Int} (hb : Below wr.heap.size wr w3) (hg : wr.heap.size ≤ gb2)
    (hbe : w3.heap[gb2]? = some (.cells #[.int .i64 0, .int .i64 0, .slice none 0 0] 67 (0, 0))) (hbk : w3.heap[gb]? = some (.cells #[.string a, .string t, .slice A n c] 24 (0, 0))) (hne : gb ≠ gb2) :
    (((w3.setCell ⟨gb2, 0, none⟩ (.int .i64 f0)).setCell ⟨gb2, 1, none⟩ (.int .i64 f1)).setCell ⟨gb2, 2, none⟩ (.slice A2 n2 c2)).cell? ⟨gb2, 0, none⟩ = some (.int .i64 f0) ∧
    (((w3.setCell ⟨gb2, 0, none⟩ (.int .i64 f0)).setCell ⟨gb2, 1, none⟩ (.int .i64 f1)).setCell ⟨gb2, 2, none⟩ (.slice A2 n2 c2)).cell? ⟨gb2, 1, none⟩ = some (.int .i64 f1) ∧
    (((w3.setCell ⟨gb2, 0, none⟩ (.int .i64 f0)).setCell ⟨gb2, 1, none⟩ (.int .i64 f1)).setCell ⟨gb2, 2, none⟩ (.slice A2 n2 c2)).cell? ⟨gb2, 2, none⟩ = some (.slice A2 n2 c2) ∧
    (((w3.setCell ⟨gb2, 0, none⟩ (.int .i64 f0)).setCell ⟨gb2, 1, none⟩ (.int .i64 f1)).setCell ⟨gb2, 2, none⟩ (.slice A2 n2 c2)).cell? ⟨gb, 2, none⟩ = some (.slice A n c) ∧
    Below wr.heap.size wr (((w3.setCell ⟨gb2, 0, none⟩ (.int .i64 f0)).setCell ⟨gb2, 1, none⟩ (.int .i64 f1)).setCell ⟨gb2, 2, none⟩ (.slice A2 n2 c2)) := by
  have h1 := blk_put (cs' := #[.int .i64 f0, .int .i64 f1, .slice A2 n2 c2]) (blk_put (cs' := #[.int .i64 f0, .int .i64 f1, .slice none 0 0]) (blk_put (cs' := #[.int .i64 f0, .int .i64 0, .slice none 0 0]) hbe 0 (.int .i64 f0) rfl) 1 (.int .i64 f1) rfl) 2 (.slice A2 n2 c2) rfl
  have h2 := blk_far (p := ⟨gb2, 2, none⟩) (blk_far (p := ⟨gb2, 1, none⟩) (blk_far (p := ⟨gb2, 0, none⟩) hbk hne (.int .i64 f0)) hne (.int .i64 f1)) hne (.slice A2 n2 c2)
  exact ⟨(blk_cell h1 0).trans rfl, (blk_cell h1 1).trans rfl, (blk_cell h1 2).trans rfl, (blk_cell h2 2).trans rfl, below_set (below_set (below_set hb hg) hg) hg⟩
theorem textAt_full (g : Nat) (a t : ByteArray) (A : Option Addr) (c : Nat) (l : List Entry) (q1 : ByteArray) (q2 : Bool) (w : World) (hblk : w.heap[g]? = some (.cells #[.string a, .string t, .slice A l.length c] 24 (0, 0)))
    (hr : Kd.C k67 w A l.length l) (hc : l.length ≤ c) (hs : sizedL l = true) (ha : a.size ≤ maxLen) (hq : runB l a = (q1, q2)) :
    Calls Try.prog 56 #[.pointer (some ⟨g, 0, none⟩), .int .i64 l.length] w fun e w' => e = .returned (.tuple #[.string q1, .bool q2]) ∧ Below w.heap.size w w' := by
  have := textAt_walk g a t A c l l.length w hblk hr hc (Nat.le_refl _) hs ha
  rwa [List.take_length, hq] at this

set_option maxHeartbeats 8000000 in
set_option maxRecDepth 100000 in
theorem goodServer_walk (a t : ByteArray) (A : Option Addr) (c : Nat) (l : List Entry) (w : World)
    (hr : Kd.C k67 w A l.length l) (hc : l.length ≤ c) (hs : sizedL l = true) (ha : a.size ≤ maxLen) :
    Calls Try.prog 36 #[.agg #[.string a, .string t, .slice A l.length c]] w fun e w' => e = .returned (.bool (goodB a t l)) ∧ Below w.heap.size w w' := by
  have hlen : l.length ≤ 9223372036854775807 := hr.2.1
  obtain ⟨K0, hK0⟩ := Ev.rounds (implText_ev a ha)
  have HK0 := mz hK0
  have HR := mz hr
  have HS := mz hs
  have HL := mz hlen
  clear hr hs hK0
  have HG : ∀ b : Bool, textB a = b → Aside0 (impl_GoodText.f K0 a = some b) := fun b e => ⟨by rw [HK0.out, e]⟩
  cases hb0 : textB a with
  | false =>
    have HT := HG false hb0
    have hres : goodB a t l = false := by simp [goodB, hb0]
    rw [hres]
    clear hres hb0 HG HK0
    go_enter Try.func36, Try.ntmps36
    go_wp2_with (first | ((with_reducible refine gate_dst (N := 1) rfl ?_); refine box_event ?hg (N := 1) ?hd (cs := #[.string a, .string t, .slice A l.length c]) (t := 24) ?hr ?_; (case hd => rfl); (case hg => rfl); (case hr => first | (go_simp; done) | (go_simp; rfl)); intro gb hg w3 hbox hb; have HB : Aside0 (Below w.heap.size w w3) := ⟨hb⟩; have x0 : w3.cell? ⟨gb, 0, none⟩ = some (.string a) := (blk_cell hbox 0).trans rfl; clear hb hbox hg) | (go_at_call 40; refine (impl_GoodText.calls K0 a false _ HT.out).mono ?_; rintro e w' ⟨rfl, hb'⟩; have HB2 := mz (below_step HB.out hb'.below); clear hb'))
    go_ret
    exact ⟨rfl, HB2.out⟩
  | true =>
    have HT := HG true hb0
    by_cases hl60 : l.length ≤ 60
    · have hl60z : ¬ (60 : Int) < (l.length : Int) := by omega
      rw [goodB_short hb0 hl60]
      clear hb0 HG HK0
      have HC := mz hc
      have HA := mz ha
      clear ha
      obtain ⟨q1, q2, hq⟩ : ∃ q1 q2, runB l a = (q1, q2) := ⟨_, _, rfl⟩
      have HQ := mz hq
      rw [hq]
      clear hq
      go_enter Try.func36, Try.ntmps36
      go_wp2_with (first | ((with_reducible refine gate_dst (N := 1) rfl ?_); refine box_event ?hg (N := 1) ?hd (cs := #[.string a, .string t, .slice A l.length c]) (t := 24) ?hr ?_; (case hd => rfl); (case hg => rfl); (case hr => first | (go_simp; done) | (go_simp; rfl)); intro gb hg w3 hbox hb; have HB : Aside0 (Below w.heap.size w w3) := ⟨hb⟩; have x0 : w3.cell? ⟨gb, 0, none⟩ = some (.string a) := (blk_cell hbox 0).trans rfl; have BK := mz hbox; clear hb hbox hg) | (go_at_call 40; refine (impl_GoodText.calls K0 a true _ HT.out).mono ?_; rintro e w' ⟨rfl, hb'⟩; have x2 := (blk_cell (blk_below BK.out hb'.below) 2).trans rfl; have HB2 := mz (below_step HB.out hb'.below); have BK2 := mz (blk_below BK.out hb'.below); clear hb'))
      clear x0 BK HB
      go_loopg [20] l.length (fun gg s20 wr => ∃ kk : Nat, kk ≤ l.length ∧ l.length - kk ≤ gg ∧ s20 = .int .i64 kk ∧ Aside0 (Below w.heap.size w wr) ∧ Aside0 (wr.heap[gb]? = some (.cells #[.string a, .string t, .slice A l.length c] 24 (0, 0))) ∧ Aside0 (okFrom l l 0 = okFrom l (l.drop kk) kk))
      case atStart => exact ⟨0, Nat.zero_le _, by omega, rfl, ⟨HB2.out⟩, ⟨BK2.out⟩, ⟨by rw [List.drop_zero]⟩⟩
      case round =>
        clear x2 HB2 BK2
        obtain ⟨kk, hkk, hg, rfl, BW, BK2, OK⟩ := hrel
        by_cases hlt : kk < l.length
        · have hltz : (kk : Int) < (l.length : Int) := by omega
          obtain ⟨ad, A2, c2, e1, hx0, hx1, hx2, hl2, hi2⟩ := at_T67 (Kd.C_below HR.out BW.out) (kk : Int) (by omega) hltz
          cases e1
          rw [rd_entry l kk hlt] at hx0 hx1 hx2 hl2 hi2
          rw [Int.toNat_natCast] at hx0 hx1 hx2
          have hsz := sizedL_of HS.out l[kk] (List.getElem_mem hlt)
          have OK2 := OK.out
          rw [okFrom_step l kk hlt] at OK2
          have hcl := clash_last l kk l[kk]
          clear OK
          generalize l[kk] = y at hx0 hx1 hx2 hl2 hi2 hsz OK2 hcl
          unfold okAt at OK2
          obtain ⟨K1, hK1⟩ := Ev.rounds (isEntry_ev y hsz)
          have HI2 := mz hi2
          have HL2 := mz hl2
          clear hi2 hl2 hsz
          cases q : entryB y with
          | false =>
            rw [q] at hK1 OK2
            have HK1 := mz hK1
            have HF : Aside0 (okFrom l l 0 = false) := ⟨by rw [OK2]; rfl⟩
            clear hK1 OK2 hcl q
            go_wp2_with ((with_reducible refine gate_dst (N := 4) rfl ?_); refine box_event ?hg (N := 4) ?hd (cs := #[.int .i64 0, .int .i64 0, .slice none 0 0]) (t := 67) ?hr ?_; (case hd => rfl); (case hg => rfl); (case hr => first | (go_simp; done) | (go_simp; rfl)); intro gb2 hg2 w3 hbox2 hb3; have HBB : Aside0 (Below wr.heap.size wr w3) := ⟨hb3⟩; have BK3 := mz (blk_below BK2.out hb3); have BE3 := mz hbox2; have NE : Aside0 (gb ≠ gb2) := ⟨by rw [hg2]; exact Nat.ne_of_lt (blk_lt BK2.out)⟩; have G2 : Aside0 (wr.heap.size ≤ gb2) := ⟨by rw [hg2]; first | exact Nat.le_refl _ | simp⟩; have GW : Aside0 (w.heap.size ≤ gb2) := ⟨Nat.le_trans BW.out.size G2.out⟩; have z0 : w3.cell? ⟨gb2, 0, none⟩ = some (.int .i64 0) := (blk_cell hbox2 0).trans rfl; have z1 : w3.cell? ⟨gb2, 1, none⟩ = some (.int .i64 0) := (blk_cell hbox2 1).trans rfl; have z2 : w3.cell? ⟨gb2, 2, none⟩ = some (.slice none 0 0) := (blk_cell hbox2 2).trans rfl; have f0 := blk_frozen hbox2 0; have f1 := blk_frozen hbox2 1; have f2 := blk_frozen hbox2 2; clear hb3 hbox2 hg2)
            have u2 : w3.cell? ⟨gb, 2, none⟩ = some (.slice (some ad) l.length c) := (blk_cell BK3.out 2).trans rfl
            have SW : Aside0 (Facts wr gb gb2 c c2 l.length y.f2.length (some ad) A2 y.f0 y.f1 (((w3.setCell ⟨gb2, 0, none⟩ (.int .i64 y.f0)).setCell ⟨gb2, 1, none⟩ (.int .i64 y.f1)).setCell ⟨gb2, 2, none⟩ (.slice A2 y.f2.length c2))) := ⟨set_facts HBB.out G2.out BE3.out BK3.out NE.out⟩
            refine wp_region_held_drew (S := (fun w' => w'.cell? ⟨gb2, 0, none⟩ = some (.int .i64 y.f0) ∧ w'.cell? ⟨gb2, 1, none⟩ = some (.int .i64 y.f1) ∧ w'.cell? ⟨gb2, 2, none⟩ = some (.slice A2 y.f2.length c2) ∧ w'.cell? ⟨gb, 2, none⟩ = some (.slice (some ad) l.length c) ∧ Aside0 (Below wr.heap.size wr w'))) (by kernel_rfl) ⟨SW.out.1, SW.out.2.1, SW.out.2.2.1, SW.out.2.2.2.1, mz (below_drew1 SW.out.2.2.2.2)⟩ (fun hHeld => ?_)
            refine wpAnyH_take (i := 0) (v := ?v0) rfl (by kernel_rfl) (by kernel_rfl) (by kernel_rfl) (fun _ _ _ h => h) (Or.inl ⟨by rfl, ?y0⟩) (by assumption) ?r0
            case y0 => (intro w hSw; (try dsimp only at hSw); (first | (go_simp; done) | (go_simp; with_reducible rfl)))
            (try simp only [Act.put, List.getElem_toArray, List.getElem_cons_succ, List.getElem_cons_zero, List.setIfInBounds_toArray, List.set_cons_zero, List.set_cons_succ])
            refine wpAnyH_ready (rs := [1]) (by kernel_rfl) (by simp) ?_
            refine AllReadyH.cons rfl (fun K hK => ?_) AllReadyH.nil
            go_simp
            go_at_call 54
            refine (impl_isEntry.calls K1 y.f0 y.f1 A2 c2 y.f2 false _ ?_ HL2.out HK1.out).mono ?_
            · exact Kd.C_below HI2.out (below_drew1 SW.out.2.2.2.2)
            rintro e w5 ⟨rfl, hb5⟩
            have TA := mz (step_facts (drew_facts SW.out) hb5)
            clear hb5
            (try dsimp only)
            refine hK.out _ _ ⟨TA.out.1, TA.out.2.1, TA.out.2.2.1, TA.out.2.2.2.1, mz TA.out.2.2.2.2⟩ (fun hHeld2 => ?_)
            clear hK K
            (try simp only [Act.put, List.getElem_toArray, List.getElem_cons_succ, List.getElem_cons_zero, List.setIfInBounds_toArray, List.set_cons_zero, List.set_cons_succ])
            refine wpAnyH_take (i := 2) (v := ?v2) rfl (by kernel_rfl) (by kernel_rfl) (by kernel_rfl) (fun _ _ _ h => h) (Or.inl ⟨by rfl, ?y2⟩) (by assumption) ?r2
            case y2 => (intro w hSw; (try dsimp only at hSw); (first | (go_simp; done) | (go_simp; with_reducible rfl)))
            (try simp only [Act.put, List.getElem_toArray, List.getElem_cons_succ, List.getElem_cons_zero, List.setIfInBounds_toArray, List.set_cons_zero, List.set_cons_succ])
            refine wpAnyH_take (i := 3) (v := ?v3) rfl (by kernel_rfl) (by kernel_rfl) (by kernel_rfl) (fun _ _ _ h => h) (Or.inl ⟨by rfl, ?y3⟩) (by assumption) ?r3
            case y3 => (intro w hSw; (try dsimp only at hSw); (first | (go_simp; done) | (go_simp; with_reducible rfl)))
            (try simp only [Act.put, List.getElem_toArray, List.getElem_cons_succ, List.getElem_cons_zero, List.setIfInBounds_toArray, List.set_cons_zero, List.set_cons_succ])
            refine wpAnyH_take (i := 4) (v := undef) rfl (by kernel_rfl) (by kernel_rfl) (by kernel_rfl) (fun _ _ _ h => h) (Or.inr ⟨by rfl, rfl⟩) (by assumption) ?_
            (try simp only [Act.put, List.getElem_toArray, List.getElem_cons_succ, List.getElem_cons_zero, List.setIfInBounds_toArray, List.set_cons_zero, List.set_cons_succ])
            refine wpAnyH_take (i := 5) (v := undef) rfl (by kernel_rfl) (by kernel_rfl) (by kernel_rfl) (fun _ _ _ h => h) (Or.inr ⟨by rfl, rfl⟩) (by assumption) ?_
            (try simp only [Act.put, List.getElem_toArray, List.getElem_cons_succ, List.getElem_cons_zero, List.setIfInBounds_toArray, List.set_cons_zero, List.set_cons_succ])
            refine wpAnyH_take (i := 6) (v := undef) rfl (by kernel_rfl) (by kernel_rfl) (by kernel_rfl) (fun _ _ _ h => h) (Or.inr ⟨by rfl, rfl⟩) (by assumption) ?_
            (try simp only [Act.put, List.getElem_toArray, List.getElem_cons_succ, List.getElem_cons_zero, List.setIfInBounds_toArray, List.set_cons_zero, List.set_cons_succ])
            refine wpAnyH_take (i := 7) (v := undef) rfl (by kernel_rfl) (by kernel_rfl) (by kernel_rfl) (fun _ _ _ h => h) (Or.inr ⟨by rfl, rfl⟩) (by assumption) ?_
            (try simp only [Act.put, List.getElem_toArray, List.getElem_cons_succ, List.getElem_cons_zero, List.setIfInBounds_toArray, List.set_cons_zero, List.set_cons_succ])
            refine wpAnyH_take (i := 8) (v := undef) rfl (by kernel_rfl) (by kernel_rfl) (by kernel_rfl) (fun _ _ _ h => h) (Or.inr ⟨by rfl, rfl⟩) (by assumption) ?_
            (try simp only [Act.put, List.getElem_toArray, List.getElem_cons_succ, List.getElem_cons_zero, List.setIfInBounds_toArray, List.set_cons_zero, List.set_cons_succ])
            refine wpAnyH_take (i := 9) (v := undef) rfl (by kernel_rfl) (by kernel_rfl) (by kernel_rfl) (fun _ _ _ h => h) (Or.inr ⟨by rfl, rfl⟩) (by assumption) ?_
            (try simp only [Act.put, List.getElem_toArray, List.getElem_cons_succ, List.getElem_cons_zero, List.setIfInBounds_toArray, List.set_cons_zero, List.set_cons_succ])
            refine wpAnyH_take (i := 11) (v := undef) rfl (by kernel_rfl) (by kernel_rfl) (by kernel_rfl) (fun _ _ _ h => h) (Or.inr ⟨by rfl, rfl⟩) (by assumption) ?_
            (try simp only [Act.put, List.getElem_toArray, List.getElem_cons_succ, List.getElem_cons_zero, List.setIfInBounds_toArray, List.set_cons_zero, List.set_cons_succ])
            refine wpAnyH_take (i := 12) (v := undef) rfl (by kernel_rfl) (by kernel_rfl) (by kernel_rfl) (fun _ _ _ h => h) (Or.inr ⟨by rfl, rfl⟩) (by assumption) ?_
            (try simp only [Act.put, List.getElem_toArray, List.getElem_cons_succ, List.getElem_cons_zero, List.setIfInBounds_toArray, List.set_cons_zero, List.set_cons_succ])
            refine wpAnyH_take (i := 10) (v := undef) rfl (by kernel_rfl) (by kernel_rfl) (by kernel_rfl) (fun _ _ _ h => h) (Or.inr ⟨by rfl, rfl⟩) (by assumption) ?_
            (try simp only [Act.put, List.getElem_toArray, List.getElem_cons_succ, List.getElem_cons_zero, List.setIfInBounds_toArray, List.set_cons_zero, List.set_cons_succ])
            refine wpAnyH_take (i := 13) (v := undef) rfl (by kernel_rfl) (by kernel_rfl) (by kernel_rfl) (fun _ _ _ h => h) (Or.inr ⟨by rfl, rfl⟩) (by assumption) ?_
            (try simp only [Act.put, List.getElem_toArray, List.getElem_cons_succ, List.getElem_cons_zero, List.setIfInBounds_toArray, List.set_cons_zero, List.set_cons_succ])
            refine wpAnyH_take (i := 14) (v := ?v14) rfl (by kernel_rfl) (by kernel_rfl) (by kernel_rfl) (fun _ _ _ h => h) (Or.inl ⟨by rfl, ?y14⟩) (by assumption) ?r14
            case y14 => (intro w hSw; (try dsimp only at hSw); (first | (go_simp; done) | (go_simp; with_reducible rfl)))
            (try simp only [Act.put, List.getElem_toArray, List.getElem_cons_succ, List.getElem_cons_zero, List.setIfInBounds_toArray, List.set_cons_zero, List.set_cons_succ])
            refine wpAnyH_done (by kernel_rfl) ?_ _
            go_wp2
            go_ret
            exact ⟨by rw [HF.out]; rfl, below_step BW.out TA.out.2.2.2.2⟩
          | true =>
            have hy1 := (entryB_of q).2.2.1
            rw [q] at hK1 OK2
            rw [hcl hy1] at OK2
            have HK1 := mz hK1
            clear hK1 hcl q hy1
            by_cases q2 : y.f1 ≤ lastB y.f0 (l.take kk) 0
            · rw [decide_eq_true q2] at OK2
              have HF : Aside0 (okFrom l l 0 = false) := ⟨by rw [OK2]; rfl⟩
              clear OK2
              have ik0 : (0 : Int) ≤ (kk : Int) := by omega
              have ik1 : (kk : Int) ≤ (c : Int) := by omega
              go_wp2_with ((with_reducible refine gate_dst (N := 4) rfl ?_); refine box_event ?hg (N := 4) ?hd (cs := #[.int .i64 0, .int .i64 0, .slice none 0 0]) (t := 67) ?hr ?_; (case hd => rfl); (case hg => rfl); (case hr => first | (go_simp; done) | (go_simp; rfl)); intro gb2 hg2 w3 hbox2 hb3; have HBB : Aside0 (Below wr.heap.size wr w3) := ⟨hb3⟩; have BK3 := mz (blk_below BK2.out hb3); have BE3 := mz hbox2; have NE : Aside0 (gb ≠ gb2) := ⟨by rw [hg2]; exact Nat.ne_of_lt (blk_lt BK2.out)⟩; have G2 : Aside0 (wr.heap.size ≤ gb2) := ⟨by rw [hg2]; first | exact Nat.le_refl _ | simp⟩; have GW : Aside0 (w.heap.size ≤ gb2) := ⟨Nat.le_trans BW.out.size G2.out⟩; have z0 : w3.cell? ⟨gb2, 0, none⟩ = some (.int .i64 0) := (blk_cell hbox2 0).trans rfl; have z1 : w3.cell? ⟨gb2, 1, none⟩ = some (.int .i64 0) := (blk_cell hbox2 1).trans rfl; have z2 : w3.cell? ⟨gb2, 2, none⟩ = some (.slice none 0 0) := (blk_cell hbox2 2).trans rfl; have f0 := blk_frozen hbox2 0; have f1 := blk_frozen hbox2 1; have f2 := blk_frozen hbox2 2; clear hb3 hbox2 hg2)
              have u2 : w3.cell? ⟨gb, 2, none⟩ = some (.slice (some ad) l.length c) := (blk_cell BK3.out 2).trans rfl
              have SW : Aside0 (Facts wr gb gb2 c c2 l.length y.f2.length (some ad) A2 y.f0 y.f1 (((w3.setCell ⟨gb2, 0, none⟩ (.int .i64 y.f0)).setCell ⟨gb2, 1, none⟩ (.int .i64 y.f1)).setCell ⟨gb2, 2, none⟩ (.slice A2 y.f2.length c2))) := ⟨set_facts HBB.out G2.out BE3.out BK3.out NE.out⟩
              go_region_held3 (fun w' => w'.cell? ⟨gb2, 0, none⟩ = some (.int .i64 y.f0) ∧ w'.cell? ⟨gb2, 1, none⟩ = some (.int .i64 y.f1) ∧ w'.cell? ⟨gb2, 2, none⟩ = some (.slice A2 y.f2.length c2) ∧ w'.cell? ⟨gb, 2, none⟩ = some (.slice (some ad) l.length c) ∧ Aside0 (Below wr.heap.size wr w')) (first | exact ⟨SW.out.1, SW.out.2.1, SW.out.2.2.1, SW.out.2.2.2.1, mz (below_drew1 SW.out.2.2.2.2)⟩ | exact ⟨TB.out.1, TB.out.2.1, TB.out.2.2.1, TB.out.2.2.2.1, mz TB.out.2.2.2.2⟩ | exact ⟨TA.out.1, TA.out.2.1, TA.out.2.2.1, TA.out.2.2.2.1, mz TA.out.2.2.2.2⟩) (first | (go_at_call 54; refine (impl_isEntry.calls K1 y.f0 y.f1 A2 c2 y.f2 true _ ?_ HL2.out HK1.out).mono ?_; (exact Kd.C_below HI2.out (below_drew1 SW.out.2.2.2.2)); rintro e w5 ⟨rfl, hb5⟩; have TA := mz (step_facts (drew_facts SW.out) hb5); clear hb5) | (go_at_call 55; refine (lastSeq_at (some ad) c l kk y.f0 _ ?_ HC.out (Nat.le_of_lt hlt)).mono ?_; (exact Kd.C_below HR.out (below_step BW.out TA.out.2.2.2.2)); rintro e w6 ⟨rfl, hb6⟩; have TB := mz (step_facts TA.out hb6); clear hb6))
              go_wp2
              go_ret
              exact ⟨by rw [HF.out]; rfl, below_step BW.out TB.out.2.2.2.2⟩
            · rw [decide_eq_false q2] at OK2
              have HF : Aside0 (okFrom l l 0 = okFrom l (l.drop (kk + 1)) (kk + 1)) := ⟨by rw [OK2]; simp⟩
              clear OK2
              have ik0 : (0 : Int) ≤ (kk : Int) := by omega
              have ik1 : (kk : Int) ≤ (c : Int) := by omega
              go_wp2_with ((with_reducible refine gate_dst (N := 4) rfl ?_); refine box_event ?hg (N := 4) ?hd (cs := #[.int .i64 0, .int .i64 0, .slice none 0 0]) (t := 67) ?hr ?_; (case hd => rfl); (case hg => rfl); (case hr => first | (go_simp; done) | (go_simp; rfl)); intro gb2 hg2 w3 hbox2 hb3; have HBB : Aside0 (Below wr.heap.size wr w3) := ⟨hb3⟩; have BK3 := mz (blk_below BK2.out hb3); have BE3 := mz hbox2; have NE : Aside0 (gb ≠ gb2) := ⟨by rw [hg2]; exact Nat.ne_of_lt (blk_lt BK2.out)⟩; have G2 : Aside0 (wr.heap.size ≤ gb2) := ⟨by rw [hg2]; first | exact Nat.le_refl _ | simp⟩; have GW : Aside0 (w.heap.size ≤ gb2) := ⟨Nat.le_trans BW.out.size G2.out⟩; have z0 : w3.cell? ⟨gb2, 0, none⟩ = some (.int .i64 0) := (blk_cell hbox2 0).trans rfl; have z1 : w3.cell? ⟨gb2, 1, none⟩ = some (.int .i64 0) := (blk_cell hbox2 1).trans rfl; have z2 : w3.cell? ⟨gb2, 2, none⟩ = some (.slice none 0 0) := (blk_cell hbox2 2).trans rfl; have f0 := blk_frozen hbox2 0; have f1 := blk_frozen hbox2 1; have f2 := blk_frozen hbox2 2; clear hb3 hbox2 hg2)
              have u2 : w3.cell? ⟨gb, 2, none⟩ = some (.slice (some ad) l.length c) := (blk_cell BK3.out 2).trans rfl
              have SW : Aside0 (Facts wr gb gb2 c c2 l.length y.f2.length (some ad) A2 y.f0 y.f1 (((w3.setCell ⟨gb2, 0, none⟩ (.int .i64 y.f0)).setCell ⟨gb2, 1, none⟩ (.int .i64 y.f1)).setCell ⟨gb2, 2, none⟩ (.slice A2 y.f2.length c2))) := ⟨set_facts HBB.out G2.out BE3.out BK3.out NE.out⟩
              go_region_held3 (fun w' => w'.cell? ⟨gb2, 0, none⟩ = some (.int .i64 y.f0) ∧ w'.cell? ⟨gb2, 1, none⟩ = some (.int .i64 y.f1) ∧ w'.cell? ⟨gb2, 2, none⟩ = some (.slice A2 y.f2.length c2) ∧ w'.cell? ⟨gb, 2, none⟩ = some (.slice (some ad) l.length c) ∧ Aside0 (Below wr.heap.size wr w')) (first | exact ⟨SW.out.1, SW.out.2.1, SW.out.2.2.1, SW.out.2.2.2.1, mz (below_drew1 SW.out.2.2.2.2)⟩ | exact ⟨TB.out.1, TB.out.2.1, TB.out.2.2.1, TB.out.2.2.2.1, mz TB.out.2.2.2.2⟩ | exact ⟨TA.out.1, TA.out.2.1, TA.out.2.2.1, TA.out.2.2.2.1, mz TA.out.2.2.2.2⟩) (first | (go_at_call 54; refine (impl_isEntry.calls K1 y.f0 y.f1 A2 c2 y.f2 true _ ?_ HL2.out HK1.out).mono ?_; (exact Kd.C_below HI2.out (below_drew1 SW.out.2.2.2.2)); rintro e w5 ⟨rfl, hb5⟩; have TA := mz (step_facts (drew_facts SW.out) hb5); clear hb5) | (go_at_call 55; refine (lastSeq_at (some ad) c l kk y.f0 _ ?_ HC.out (Nat.le_of_lt hlt)).mono ?_; (exact Kd.C_below HR.out (below_step BW.out TA.out.2.2.2.2)); rintro e w6 ⟨rfl, hb6⟩; have TB := mz (step_facts TA.out hb6); clear hb6))
              go_wp2
              go_roundg (l.length - (kk + 1))
              case measure => omega
              case rel => have hl64 := HL.out; exact ⟨kk + 1, by omega, by omega, by (first | go_num | (congr 1; unfold wrap64; omega)), ⟨below_step BW.out TB.out.2.2.2.2⟩, ⟨blk_below BK2.out TB.out.2.2.2.2⟩, ⟨HF.out⟩⟩
        · have hltz : ¬ (kk : Int) < (l.length : Int) := by omega
          have HF : Aside0 (okFrom l l 0 = true) := ⟨by rw [OK.out, List.drop_eq_nil_of_le (by omega)]; rfl⟩
          have x2 : wr.cell? ⟨gb, 2, none⟩ = some (.slice A l.length c) := (blk_cell BK2.out 2).trans rfl
          clear OK
          cases q2 with
          | false =>
            go_wp2_with (go_at_call 56; refine (textAt_full gb a t A c l q1 false _ BK2.out (Kd.C_below HR.out BW.out) HC.out HS.out HA.out HQ.out).mono ?_; rintro e w6 ⟨rfl, hb6⟩; have HB6 := mz (below_step BW.out hb6); have y1 : w6.cell? ⟨gb, 1, none⟩ = some (.string t) := (blk_cell (blk_below BK2.out hb6) 1).trans rfl; clear hb6)
            go_ret
            exact ⟨by rw [HF.out]; rfl, HB6.out⟩
          | true =>
            by_cases hqt : q1.toList = t.toList
            · have hqt' : (q1.toList == t.toList) = true := beq_iff_eq.2 hqt
              go_wp2_with (go_at_call 56; refine (textAt_full gb a t A c l q1 true _ BK2.out (Kd.C_below HR.out BW.out) HC.out HS.out HA.out HQ.out).mono ?_; rintro e w6 ⟨rfl, hb6⟩; have HB6 := mz (below_step BW.out hb6); have y1 : w6.cell? ⟨gb, 1, none⟩ = some (.string t) := (blk_cell (blk_below BK2.out hb6) 1).trans rfl; clear hb6)
              go_ret
              exact ⟨by rw [HF.out]; simp [ba_ext hqt], HB6.out⟩
            · have hqt' : (q1.toList == t.toList) = false := beq_eq_false_iff_ne.2 hqt
              have hne : Aside0 (decide (q1 = t) = false) := ⟨decide_eq_false (fun h => hqt (by rw [h]))⟩
              go_wp2_with (go_at_call 56; refine (textAt_full gb a t A c l q1 true _ BK2.out (Kd.C_below HR.out BW.out) HC.out HS.out HA.out HQ.out).mono ?_; rintro e w6 ⟨rfl, hb6⟩; have HB6 := mz (below_step BW.out hb6); have y1 : w6.cell? ⟨gb, 1, none⟩ = some (.string t) := (blk_cell (blk_below BK2.out hb6) 1).trans rfl; clear hb6)
              go_ret
              exact ⟨by rw [HF.out, hne.out]; rfl, HB6.out⟩
    · have hl60z : (60 : Int) < (l.length : Int) := by omega
      have hres : goodB a t l = false := by simp [goodB, hl60]
      rw [hres]
      clear hres hb0 HG HK0
      go_enter Try.func36, Try.ntmps36
      go_wp2_with (first | ((with_reducible refine gate_dst (N := 1) rfl ?_); refine box_event ?hg (N := 1) ?hd (cs := #[.string a, .string t, .slice A l.length c]) (t := 24) ?hr ?_; (case hd => rfl); (case hg => rfl); (case hr => first | (go_simp; done) | (go_simp; rfl)); intro gb hg w3 hbox hb; have HB : Aside0 (Below w.heap.size w w3) := ⟨hb⟩; have x0 : w3.cell? ⟨gb, 0, none⟩ = some (.string a) := (blk_cell hbox 0).trans rfl; have BK := mz hbox; clear hb hbox hg) | (go_at_call 40; refine (impl_GoodText.calls K0 a true _ HT.out).mono ?_; rintro e w' ⟨rfl, hb'⟩; have x2 := (blk_cell (blk_below BK.out hb'.below) 2).trans rfl; have HB2 := mz (below_step HB.out hb'.below); clear hb'))
      go_ret
      exact ⟨rfl, HB2.out⟩
abbrev Client := S51
def tailC (y : Client) : Bool := (y.f4 || decide (y.f5.length = 0)) && (y.f7 || decide (y.f6.length = 0)) && (!y.f4 || decide (0 < y.f3)) && (!y.f7 || y.f4)
def clientB (y : Client) : Bool := decide (0 ≤ y.f0) && decide (y.f0 ≤ 3) && textB y.f1 && decide (0 ≤ y.f2) && decide (y.f2 ≤ 1000) && decide (0 ≤ y.f3) && decide (y.f3 ≤ 1000) && opB y.f5 && opB y.f6 && tailC y
theorem clientB_parts (i : Int) (t : ByteArray) (v q : Int) (b : Bool) (s5 s6 : List Part) (d : Bool) : clientB ⟨i, t, v, q, b, s5, s6, d⟩ =
    ((decide (0 ≤ i) && decide (i ≤ 3)) && (textB t && ((decide (0 ≤ v) && decide (v ≤ 1000)) && ((decide (0 ≤ q) && decide (q ≤ 1000)) && ((opB s5 && opB s6) && tailC ⟨i, t, v, q, b, s5, s6, d⟩))))) := by
  simp only [clientB, Bool.and_assoc]
theorem clientB_of {y : Client} (h : clientB y = true) : 0 ≤ y.f0 ∧ y.f0 ≤ 3 ∧ textB y.f1 = true ∧ 0 ≤ y.f2 ∧ y.f2 ≤ 1000 ∧ 0 ≤ y.f3 ∧ y.f3 ≤ 1000 ∧ opB y.f5 = true ∧ opB y.f6 = true := by
  simp only [clientB, Bool.and_eq_true, decide_eq_true_eq] at h
  obtain ⟨⟨⟨⟨⟨⟨⟨⟨⟨h0, h1⟩, h2⟩, h3⟩, h4⟩, h5⟩, h6⟩, h7⟩, h8⟩, _⟩ := h
  exact ⟨h0, h1, h2, h3, h4, h5, h6, h7, h8⟩
section
variable {P : Program} {ops : Array Oper} {rest : List Oper} {o : Oper} {a a' : Act} {Q : Exit → Act → World → Prop} {W : World}
theorem bx (N : Tmp) (cs : Array Value) (t : TypeId)
    (h : ∀ g, g = W.heap.size → ∀ w1, w1.heap[g]? = some (.cells cs t (0, 0)) → Below W.heap.size W w1 → wpList P ops Q rest (a.put o.dst (.pointer (some ⟨g, 0, none⟩))) w1)
    (hd : o.dst = some N := by rfl) (hgd : o.guard = none := by rfl)
    (hrun : (execOp a.eval o).run P W = .ok (.value (.pointer (some ⟨W.heap.size, 0, none⟩))) (W.alloc (.cells cs t (0, 0))) := by first | (go_simp; done) | (go_simp; rfl)) : wpList P ops Q (o :: rest) a W :=
  box_event hgd hd hrun h
theorem vl (N : Tmp) (v : Value) (h : wpList P ops Q rest (a.put o.dst v) W) (hrun : (execOp a.eval o).run P W = .ok (.value v) W) (hd : o.dst = some N := by rfl) (hgd : o.guard = none := by rfl) : wpList P ops Q (o :: rest) a W :=
  Kd.event_run hgd hrun h
end
section
variable {P : Program} {ops : Array Oper} {Q : Exit → Act → World → Prop} {md : Region.Mode} {S : World → Prop} {fuel : Nat} {listed : Array Bool} {a a' : Act} {w : World} {oi : Oper}
theorem tO (i : Nat) 
    (h : wpAnyH P md ops Q S fuel (listed.setIfInBounds i true) a' w) (hi : ops[i]? = some oi := by rfl) (hs : Region.noSelect ops = true := by kernel_rfl) (hf : Region.free md ops listed i = true := by kernel_rfl) (hr : (Region.ready md ops listed).contains i = true := by kernel_rfl)
    (hw : Region.wanted oi (yielded ops a.tmps) = false := by rfl) (hS : S w := by assumption) (hQ : ∀ c a w, Q (.panic c) (a.put oi.dst undef) w → Q (.panic c) a w := by exact fun _ _ _ h => h)
    (ha : a.put oi.dst undef = a' := by (simp only [Act.put, List.getElem_toArray, List.getElem_cons_succ, List.getElem_cons_zero, List.setIfInBounds_toArray, List.set_cons_zero, List.set_cons_succ]; rfl)) : wpAnyH P md ops Q S (fuel + 1) listed a w :=
  wpAnyH_take hi hs hf hr hQ (Or.inr ⟨hw, rfl⟩) hS (ha ▸ h)
theorem tF (i : Nat) {G : World → Prop} {v : Value} (F : ∀ w, S w → G w)
    (h : wpAnyH P md ops Q S fuel (listed.setIfInBounds i true) a' w) (hi : ops[i]? = some oi := by rfl) (hs : Region.noSelect ops = true := by kernel_rfl) (hf : Region.free md ops listed i = true := by kernel_rfl) (hr : (Region.ready md ops listed).contains i = true := by kernel_rfl)
    (hw : Region.wanted oi (yielded ops a.tmps) = true := by rfl) (hS : S w := by assumption)
    (hy : ∀ w, G w → (execOp a.eval oi).run P w = .ok (.value v) w := by (intro w hSw; (try dsimp only at hSw); go_simp; (try with_reducible rfl)))
    (hQ : ∀ c a w, Q (.panic c) (a.put oi.dst v) w → Q (.panic c) a w := by exact fun _ _ _ h => h)
    (ha : a.put oi.dst v = a' := by (simp only [Act.put, List.getElem_toArray, List.getElem_cons_succ, List.getElem_cons_zero, List.setIfInBounds_toArray, List.set_cons_zero, List.set_cons_succ]; rfl)) : wpAnyH P md ops Q S (fuel + 1) listed a w :=
  wpAnyH_take hi hs hf hr hQ (Or.inl ⟨hw, fun w hw => hy w (F w hw)⟩) hS (ha ▸ h)
theorem tC (i : Nat) {f : FuncId} {vs : Array Value} {T : Ending → World → Prop} (hc : Calls P f vs w T)
    (h : ∀ e w', T e w' → ∃ v, e = .returned v ∧ S w' ∧ ∀ a', a.put oi.dst v = a' → (S w' → wpAnyH P md ops Q S fuel (listed.setIfInBounds i true) a' w'))
    (hi : ops[i]? = some oi := by rfl) (hr : Region.ready md ops listed = [i] := by kernel_rfl)
    (hw : Region.wanted oi (yielded ops a.tmps) = true := by rfl)
    (hrun : (execOp a.eval oi).run P w = .ok (.enter f vs) w := by (first | kernel_rfl | (go_simp; rfl))) : wpAnyH P md ops Q S (fuel + 1) listed a w := by
  refine wpAnyH_ready hr (by simp) (AllReadyH.cons hi (fun K hK => ?_) AllReadyH.nil)
  rw [if_pos hw]
  unfold Oper.wp
  rw [hrun, Oper.upon_enter]
  refine hc.mono fun e w' hT => ?_
  obtain ⟨v, rfl, hS, hn⟩ := h e w' hT
  exact hK.out _ _ hS (hn _ rfl)
end
theorem cells3 {w : World} {g : Nat} {t : TypeId} {a b c : Value} (h : w.heap[g]? = some (.cells #[a, b, c] t (0, 0))) : w.cell? ⟨g, 0, none⟩ = some a ∧ w.cell? ⟨g, 1, none⟩ = some b ∧ w.cell? ⟨g, 2, none⟩ = some c := ⟨(blk_cell h 0).trans rfl, (blk_cell h 1).trans rfl, (blk_cell h 2).trans rfl⟩
theorem cells4 {w : World} {g : Nat} {t : TypeId} {a b c d : Value} (h : w.heap[g]? = some (.cells #[a, b, c, d] t (0, 0))) : w.cell? ⟨g, 0, none⟩ = some a ∧ w.cell? ⟨g, 1, none⟩ = some b ∧ w.cell? ⟨g, 2, none⟩ = some c ∧ w.cell? ⟨g, 3, none⟩ = some d := ⟨(blk_cell h 0).trans rfl, (blk_cell h 1).trans rfl, (blk_cell h 2).trans rfl, (blk_cell h 3).trans rfl⟩
theorem cells8 {w : World} {g : Nat} {t : TypeId} {a b c d e f i j : Value} (h : w.heap[g]? = some (.cells #[a, b, c, d, e, f, i, j] t (0, 0))) :
    w.cell? ⟨g, 0, none⟩ = some a ∧ w.cell? ⟨g, 1, none⟩ = some b ∧ w.cell? ⟨g, 2, none⟩ = some c ∧ w.cell? ⟨g, 3, none⟩ = some d ∧ w.cell? ⟨g, 4, none⟩ = some e ∧ w.cell? ⟨g, 5, none⟩ = some f ∧ w.cell? ⟨g, 6, none⟩ = some i ∧ w.cell? ⟨g, 7, none⟩ = some j :=
  ⟨(blk_cell h 0).trans rfl, (blk_cell h 1).trans rfl, (blk_cell h 2).trans rfl, (blk_cell h 3).trans rfl, (blk_cell h 4).trans rfl, (blk_cell h 5).trans rfl, (blk_cell h 6).trans rfl, (blk_cell h 7).trans rfl⟩
theorem froz3 {w : World} {g : Nat} {t : TypeId} {cs : Array Value} (h : w.heap[g]? = some (.cells cs t (0, 0))) : w.frozen? ⟨g, 0, none⟩ = false ∧ w.frozen? ⟨g, 1, none⟩ = false ∧ w.frozen? ⟨g, 2, none⟩ = false := ⟨blk_frozen h 0, blk_frozen h 1, blk_frozen h 2⟩
theorem froz8 {w : World} {g : Nat} {t : TypeId} {cs : Array Value} (h : w.heap[g]? = some (.cells cs t (0, 0))) : w.frozen? ⟨g, 0, none⟩ = false ∧ w.frozen? ⟨g, 1, none⟩ = false ∧ w.frozen? ⟨g, 2, none⟩ = false ∧ w.frozen? ⟨g, 3, none⟩ = false ∧ w.frozen? ⟨g, 4, none⟩ = false ∧ w.frozen? ⟨g, 5, none⟩ = false ∧ w.frozen? ⟨g, 6, none⟩ = false ∧ w.frozen? ⟨g, 7, none⟩ = false :=
  ⟨blk_frozen h 0, blk_frozen h 1, blk_frozen h 2, blk_frozen h 3, blk_frozen h 4, blk_frozen h 5, blk_frozen h 6, blk_frozen h 7⟩
theorem fill3 {w w3 : World} {g : Nat} {t : TypeId} {z0 z1 z2 v0 v1 v2 : Value} (hb : Below w.heap.size w w3) (hg : w.heap.size ≤ g) (h : w3.heap[g]? = some (.cells #[z0, z1, z2] t (0, 0))) :
    (((w3.setCell ⟨g, 0, none⟩ v0).setCell ⟨g, 1, none⟩ v1).setCell ⟨g, 2, none⟩ v2).heap[g]? = some (.cells #[v0, v1, v2] t (0, 0)) ∧ Below w.heap.size w (((w3.setCell ⟨g, 0, none⟩ v0).setCell ⟨g, 1, none⟩ v1).setCell ⟨g, 2, none⟩ v2) :=
  ⟨blk_put (cs' := #[v0, v1, v2]) (blk_put (cs' := #[v0, v1, z2]) (blk_put (cs' := #[v0, z1, z2]) h 0 v0 rfl) 1 v1 rfl) 2 v2 rfl, below_set (below_set (below_set hb hg) hg) hg⟩
theorem fill8 {w w3 : World} {g : Nat} {t : TypeId} {z0 z1 z2 z3 z4 z5 z6 z7 v0 v1 v2 v3 v4 v5 v6 v7 : Value} (hb : Below w.heap.size w w3) (hg : w.heap.size ≤ g) (h : w3.heap[g]? = some (.cells #[z0, z1, z2, z3, z4, z5, z6, z7] t (0, 0))) :
    ((((((((w3.setCell ⟨g, 0, none⟩ v0).setCell ⟨g, 1, none⟩ v1).setCell ⟨g, 2, none⟩ v2).setCell ⟨g, 3, none⟩ v3).setCell ⟨g, 4, none⟩ v4).setCell ⟨g, 5, none⟩ v5).setCell ⟨g, 6, none⟩ v6).setCell ⟨g, 7, none⟩ v7).heap[g]? = some (.cells #[v0, v1, v2, v3, v4, v5, v6, v7] t (0, 0)) ∧
    Below w.heap.size w ((((((((w3.setCell ⟨g, 0, none⟩ v0).setCell ⟨g, 1, none⟩ v1).setCell ⟨g, 2, none⟩ v2).setCell ⟨g, 3, none⟩ v3).setCell ⟨g, 4, none⟩ v4).setCell ⟨g, 5, none⟩ v5).setCell ⟨g, 6, none⟩ v6).setCell ⟨g, 7, none⟩ v7) :=
  ⟨blk_put (cs' := #[v0, v1, v2, v3, v4, v5, v6, v7]) (blk_put (cs' := #[v0, v1, v2, v3, v4, v5, v6, z7]) (blk_put (cs' := #[v0, v1, v2, v3, v4, v5, z6, z7]) (blk_put (cs' := #[v0, v1, v2, v3, v4, z5, z6, z7]) (blk_put (cs' := #[v0, v1, v2, v3, z4, z5, z6, z7]) (blk_put (cs' := #[v0, v1, v2, z3, z4, z5, z6, z7]) (blk_put (cs' := #[v0, v1, z2, z3, z4, z5, z6, z7]) (blk_put (cs' := #[v0, z1, z2, z3, z4, z5, z6, z7]) h 0 v0 rfl) 1 v1 rfl) 2 v2 rfl) 3 v3 rfl) 4 v4 rfl) 5 v5 rfl) 6 v6 rfl) 7 v7 rfl,
   below_set (below_set (below_set (below_set (below_set (below_set (below_set (below_set hb hg) hg) hg) hg) hg) hg) hg) hg⟩
def sentV (i q : Int) (b : Bool) : List Entry → Bool → Option Bool
  | [], s => some s
  | e :: l, s => if e.f0 = i then (if b = true ∧ e.f1 = q then sentV i q b l true else none) else sentV i q b l s
def afterV (b : Bool) (op : List Part) (q : ByteArray × Bool) : ByteArray × Bool := if q.2 = true ∧ b = true then applyV op q.1 else q
def isAtV (c : Client) (a : ByteArray) (l : List Entry) : Bool :=
  if (l.length : Int) < c.f2 then false else
  match sentV c.f0 c.f3 c.f4 (l.drop c.f2.toNat) false with
  | none => false
  | some s => if c.f3 < lastB c.f0 l 0 ∨ (c.f4 = true ∧ s = false ∧ lastB c.f0 l 0 = c.f3) then false
    else (afterV c.f7 c.f6 (afterV c.f4 c.f5 (runB (l.take c.f2.toNat) a))).2 && decide ((afterV c.f7 c.f6 (afterV c.f4 c.f5 (runB (l.take c.f2.toNat) a))).1 = c.f1)
theorem isAtV_none {i : Int} {t : ByteArray} {v : Nat} {q : Int} {b d : Bool} {s5 s6 : List Part} {a : ByteArray} {l : List Entry} (h : v ≤ l.length) (hs : sentV i q b (l.drop v) false = none) : isAtV ⟨i, t, (v : Int), q, b, s5, s6, d⟩ a l = false := by
  unfold isAtV
  simp only [Int.toNat_natCast, hs, if_neg (show ¬ (l.length : Int) < (v : Int) by omega)]
theorem isAtV_some {i : Int} {t : ByteArray} {v : Nat} {q : Int} {b d sn : Bool} {s5 s6 : List Part} {a : ByteArray} {l : List Entry} (h : v ≤ l.length) (hs : sentV i q b (l.drop v) false = some sn) : isAtV ⟨i, t, (v : Int), q, b, s5, s6, d⟩ a l =
    (!(decide (q < lastB i l 0) || (b && !sn && (lastB i l 0 == q))) && ((afterV d s6 (afterV b s5 (runB (l.take v) a))).2 && decide ((afterV d s6 (afterV b s5 (runB (l.take v) a))).1 = t))) := by
  unfold isAtV
  simp only [Int.toNat_natCast, hs, if_neg (show ¬ (l.length : Int) < (v : Int) by omega)]
  by_cases h1 : q < lastB i l 0
  · simp [h1]
  · cases b <;> cases sn <;> by_cases h2 : lastB i l 0 = q <;> simp [h1, h2]
theorem runB_size (l : List Entry) : ∀ (a : ByteArray), a.size ≤ maxLen → (runB l a).1.size ≤ maxLen := by
  induction l with
  | nil => intro a h; exact h
  | cons e l ih =>
    intro a h
    have hr : runB (e :: l) a = if (applyV e.f2 a).2 = true then runB l (applyV e.f2 a).1 else (⟨#[]⟩, false) := rfl
    rw [hr]
    have := applyV_size e.f2 a
    by_cases q : (applyV e.f2 a).2 = true
    · rw [if_pos q]; exact ih _ (by simp only [maxLen]; omega)
    · rw [if_neg q]; exact Nat.zero_le _
set_option maxHeartbeats 8000000 in
set_option maxRecDepth 100000 in
theorem isAt_walk (gc gs : Nat) (y : Client) (A5 A6 : Option Addr) (c5 c6 : Nat) (a : ByteArray) (A : Option Addr) (c : Nat) (l : List Entry) (w : World)
    (hF : ∀ W', Below w.heap.size w W' → (W'.cell? ⟨gc, 0, none⟩ = some (.int .i64 y.f0) ∧ W'.cell? ⟨gc, 1, none⟩ = some (.string y.f1) ∧ W'.cell? ⟨gc, 2, none⟩ = some (.int .i64 y.f2) ∧ W'.cell? ⟨gc, 3, none⟩ = some (.int .i64 y.f3) ∧ W'.cell? ⟨gc, 4, none⟩ = some (.bool y.f4) ∧ W'.cell? ⟨gc, 5, none⟩ = some (.slice A5 y.f5.length c5) ∧ W'.cell? ⟨gc, 6, none⟩ = some (.slice A6 y.f6.length c6) ∧ W'.cell? ⟨gc, 7, none⟩ = some (.bool y.f7) ∧ W'.cell? ⟨gs, 0, none⟩ = some (.string a) ∧ W'.cell? ⟨gs, 2, none⟩ = some (.slice A l.length c)))
    (hr : Kd.C k67 w A l.length l) (hc : l.length ≤ c) (hs : sizedL l = true) (ha : a.size ≤ maxLen) (h5 : Kd.C k86 w A5 y.f5.length y.f5) (hc5 : y.f5.length ≤ c5) (h6 : Kd.C k86 w A6 y.f6.length y.f6) (hc6 : y.f6.length ≤ c6) (hs5 : sizedP y.f5 = true) (hs6 : sizedP y.f6 = true) (hv : 0 ≤ y.f2) :
    Calls Try.prog 38 #[.pointer (some ⟨gc, 0, none⟩), .pointer (some ⟨gs, 0, none⟩)] w fun e w' => e = .returned (.bool (isAtV y a l)) ∧ Below w.heap.size w w' := by
  have hlen : l.length ≤ 9223372036854775807 := hr.2.1
  have HR := mz hr
  have HC := mz hc
  have HS := mz hs
  have HA := mz ha
  have H5 := mz h5
  have HC5 := mz hc5
  have H6 := mz h6
  have HC6 := mz hc6
  have HS5 := mz hs5
  have HS6 := mz hs6
  have HL := mz hlen
  have HF := mz hF
  have FX := hF w (Below.refl _ _)
  clear hr hc hs ha h5 hc5 h6 hc6 hs5 hs6 hlen hF
  have F := HF.out
  clear FX
  obtain ⟨i, t, vv, q, b, s5, s6, d⟩ := y
  dsimp only at hv F HF H5 HC5 H6 HC6 HS5 HS6
  obtain ⟨v, rfl⟩ : ∃ v : Nat, vv = (v : Int) := ⟨vv.toNat, by omega⟩
  clear hv
  by_cases hlt : (l.length : Int) < (v : Int)
  · have hres : isAtV ⟨i, t, v, q, b, s5, s6, d⟩ a l = false := by unfold isAtV; rw [if_pos hlt]
    rw [hres]
    clear hres
    go_enter Try.func38, Try.ntmps38
    have FF := mz F
    clear F
    go_wp2_with fail
    have F := FF.out
    refine wp_region_held_drew (S := fun W' => Below w.heap.size w W') (by kernel_rfl) (below_drew1 (Below.refl _ _)) (fun Y1 => ?_)
    refine' tF 0 F ?_
    refine' tF 1 F ?_
    refine' tF 2 F ?_
    refine' tF 3 F ?_
    refine' tF 4 F ?_
    refine' tF 5 F ?_
    refine' tF 6 F ?_
    refine' tF 7 F ?_
    refine' tF 8 F ?_
    refine' tF 9 F ?_
    refine wpAnyH_done (by kernel_rfl) ?_ _
    clear F
    go_wp2
    go_ret
    exact ⟨rfl, Y1⟩
  · have hge : (v : Int) ≤ (l.length : Int) := by omega
    have hgn : v ≤ l.length := by omega
    have hlt0 := mz hlt
    clear hlt
    have hvc : (v : Int) ≤ (c : Int) := by have := HC.out; omega
    have hv0 : (0 : Int) ≤ (v : Int) := by omega
    obtain ⟨A', hA'⟩ : ∃ A', A' = (if c = v then A else A.map (·.add (v * 3))) := ⟨_, rfl⟩
    have CD : Aside0 (Kd.C k67 w A' (l.drop v).length (l.drop v)) := ⟨by rw [hA']; exact Kd.C_drop HR.out hgn HC.out⟩
    have HAP := mz hA'
    clear hA'
    have hln : (l.length < v) = False := eq_false (by omega)
    go_enter Try.func38, Try.ntmps38
    have FF := mz F
    clear F
    go_wp2_with fail
    have F := FF.out
    refine wp_region_held_drew (S := fun W' => Below w.heap.size w W') (by kernel_rfl) (below_drew1 (Below.refl _ _)) (fun Y1 => ?_)
    refine' tF 0 F ?_
    refine' tF 1 F ?_
    refine' tF 2 F ?_
    refine' tF 3 F ?_
    refine' tF 4 F ?_
    refine' tF 5 F ?_
    refine' tF 6 F ?_
    refine' tF 7 F ?_
    refine' tF 8 F ?_
    refine' tF 9 F ?_
    refine wpAnyH_done (by kernel_rfl) ?_ _
    clear F
    go_wp2_with fail
    have F := FF.out
    refine wp_region_held_drew (S := fun W' => Below w.heap.size w W') (by kernel_rfl) (below_drew1 Y1) (fun Y2 => ?_)
    refine' tF 0 F ?_
    refine' tF 1 F ?_
    refine' tF 2 F ?_
    refine' tF 3 F ?_
    refine' tF 4 F ?_
    refine' tF 5 F ?_
    refine' tF 6 F ?_
    refine' tF 7 F ?_
    refine' tF 8 F (v := .slice A' (l.length - v) (c - v)) ?_ (hy := ?y8)
    case y8 =>
      clear F Y1 Y2 FF
      intro W hG
      rw [HAP.out]
      by_cases hcv : c = v
      · subst hcv
        go_simp
      · go_simp
    refine' tF 9 F ?_
    refine' tF 10 F ?_
    refine wpAnyH_done (by kernel_rfl) ?_ _
    clear F FF
    go_wp2_with fail
    have hLl : (l.drop v).length = l.length - v := List.length_drop
    have CD2 := CD.out
    obtain ⟨L, hL⟩ : ∃ L, L = l.drop v := ⟨_, rfl⟩
    rw [← hL] at hLl CD2
    rw [← hLl]
    have HLD := mz hL
    have HSL : Aside0 (sizedL L = true) := ⟨by rw [hL]; simp only [sizedL, List.all_eq_true]; intro x hx; exact sizedL_of HS.out x (List.mem_of_mem_drop hx)⟩
    have HL2 : Aside0 (L.length ≤ 9223372036854775807) := ⟨by have := HL.out; omega⟩
    have CD3 := mz CD2
    clear hL CD2 CD hLl
    have Y2A := mz Y2
    clear Y2 Y1 hge
    go_loopg [5, 31] L.length (fun gg z5 z31 wr => ∃ (kk : Nat) (sn : Bool), kk ≤ L.length ∧ L.length - kk ≤ gg ∧ z5 = .bool sn ∧ z31 = .int .i64 kk ∧ Aside0 (Below w.heap.size w wr) ∧ Aside0 (sentV i q b L false = sentV i q b (L.drop kk) sn))
    case atStart => exact ⟨0, false, Nat.zero_le _, by omega, rfl, rfl, ⟨Y2A.out⟩, ⟨by rw [List.drop_zero]⟩⟩
    case round =>
      clear Y2A
      obtain ⟨kk, sn, hkk, hg, rfl, rfl, BW, SV⟩ := hrel
      by_cases hlt : kk < L.length
      · have hltz : (kk : Int) < (L.length : Int) := by omega
        obtain ⟨ad, A2, c2, e1, hx0, hx1, hx2, hl2, hi2⟩ := at_T67 (Kd.C_below CD3.out BW.out) (kk : Int) (by omega) hltz
        subst e1
        rw [rd_entry L kk hlt] at hx0 hx1 hx2 hl2 hi2
        rw [Int.toNat_natCast] at hx0 hx1 hx2
        have SV2 := SV.out
        rw [List.drop_eq_getElem_cons hlt, sentV] at SV2
        clear SV hl2 hi2
        generalize L[kk] = e at hx0 hx1 hx2 SV2
        have SV := mz SV2
        clear SV2
        go_upto_region 7 with ((with_reducible refine gate_dst (N := 7) rfl ?_); refine bx 7 #[.int .i64 0, .int .i64 0, .slice none 0 0] 67 ?_; intro ge hge w3 hbox hb3; have HB3 := mz hb3; have BE3 := mz hbox; have G3 : Aside0 (wr.heap.size ≤ ge) := ⟨by rw [hge]; first | exact Nat.le_refl _ | simp⟩; obtain ⟨z0, z1, z2⟩ := cells3 hbox; obtain ⟨f0, f1, f2⟩ := froz3 hbox; clear hb3 hbox hge)
        obtain ⟨BE4, HB4⟩ := fill3 (v0 := .int .i64 e.f0) (v1 := .int .i64 e.f1) (v2 := .slice A2 e.f2.length c2) HB3.out G3.out BE3.out
        clear z0 z1 z2 f0 f1 f2 BE3 HB3 G3 hx0 hx1 hx2
        generalize ((w3.setCell ⟨ge, 0, none⟩ (.int .i64 e.f0)).setCell ⟨ge, 1, none⟩ (.int .i64 e.f1)).setCell ⟨ge, 2, none⟩ (.slice A2 e.f2.length c2) = w4 at BE4 HB4 ⊢
        have HBW := below_step BW.out HB4
        have F : ∀ W', Below w4.heap.size w4 W' → (W'.cell? ⟨gc, 0, none⟩ = some (.int .i64 i) ∧ W'.cell? ⟨gc, 1, none⟩ = some (.string t) ∧ W'.cell? ⟨gc, 2, none⟩ = some (.int .i64 (v : Int)) ∧ W'.cell? ⟨gc, 3, none⟩ = some (.int .i64 q) ∧ W'.cell? ⟨gc, 4, none⟩ = some (.bool b) ∧ W'.cell? ⟨gc, 5, none⟩ = some (.slice A5 s5.length c5) ∧ W'.cell? ⟨gc, 6, none⟩ = some (.slice A6 s6.length c6) ∧ W'.cell? ⟨gc, 7, none⟩ = some (.bool d) ∧ W'.cell? ⟨gs, 0, none⟩ = some (.string a) ∧ W'.cell? ⟨gs, 2, none⟩ = some (.slice A l.length c)) ∧ (W'.cell? ⟨ge, 0, none⟩ = some (.int .i64 e.f0) ∧ W'.cell? ⟨ge, 1, none⟩ = some (.int .i64 e.f1) ∧ W'.cell? ⟨ge, 2, none⟩ = some (.slice A2 e.f2.length c2)) := fun W' hb => ⟨HF.out W' (below_step HBW hb), cells3 (blk_below BE4 hb)⟩
        have HW4 := mz HBW
        clear HBW BE4 HB4
        cases hei : (e.f0 == i) with
        | false =>
          have SV3 : Aside0 (sentV i q b L false = sentV i q b (L.drop (kk + 1)) sn) := ⟨by rw [SV.out, if_neg ((by simpa using hei : ¬ e.f0 = i))]⟩
          refine wp_region_held_drew (S := fun W' => Below w4.heap.size w4 W') (by kernel_rfl) (below_drew1 (Below.refl _ _)) (fun Y7 => ?_)
          refine' tF 0 F ?_
          refine' tF 1 F ?_
          refine' tF 2 F ?_
          refine' tF 3 F ?_
          refine' tF 4 F ?_
          refine' tF 5 F ?_
          refine' tF 6 F ?_
          refine wpAnyH_done (by kernel_rfl) ?_ _
          have Y7A := mz Y7
          clear F Y7
          go_wp2_with fail
          go_roundg (L.length - (kk + 1))
          case measure => omega
          case rel => have hl64 := HL2.out; exact ⟨kk + 1, sn, by omega, by omega, rfl, by (first | go_num | (congr 1; unfold wrap64; omega)), ⟨below_step HW4.out Y7A.out⟩, ⟨SV3.out⟩⟩
        | true =>
          have SV2 : Aside0 (sentV i q b L false = if b = true ∧ e.f1 = q then sentV i q b (L.drop (kk + 1)) true else none) := ⟨by rw [SV.out, if_pos ((by simpa using hei : e.f0 = i))]⟩
          clear SV
          have F7 := mz F
          refine wp_region_held_drew (S := fun W' => Below w4.heap.size w4 W') (by kernel_rfl) (below_drew1 (Below.refl _ _)) (fun Y7 => ?_)
          refine' tF 0 F ?_
          refine' tF 1 F ?_
          refine' tF 2 F ?_
          refine' tF 3 F ?_
          refine' tF 4 F ?_
          refine' tF 5 F ?_
          refine' tF 6 F ?_
          refine wpAnyH_done (by kernel_rfl) ?_ _
          have Y7A := mz Y7
          clear F Y7
          go_wp2_with fail
          have F := F7.out
          cases b with
          | false =>
            have SV3 : Aside0 (sentV i q false L false = none) := ⟨by rw [SV2.out, if_neg (by simp)]⟩
            refine wp_region_held_drew (S := fun W' => Below w4.heap.size w4 W') (by kernel_rfl) (below_drew1 Y7A.out) (fun Y8 => ?_)
            refine' tF 0 F ?_
            refine' tF 1 F ?_
            refine' tF 2 F ?_
            refine' tF 3 F ?_
            refine' tF 4 F ?_
            refine' tF 5 F ?_
            refine' tO 6 ?_
            refine' tO 7 ?_
            refine' tO 8 ?_
            refine' tO 9 ?_
            refine' tO 10 ?_
            refine' tO 11 ?_
            refine' tO 12 ?_
            refine' tF 13 F ?_
            refine wpAnyH_done (by kernel_rfl) ?_ _
            clear F
            have Y8A := mz Y8
            clear Y8
            go_wp2_with fail
            go_ret
            exact ⟨by rw [isAtV_none hgn (by rw [← HLD.out]; exact SV3.out)]; rfl, below_step HW4.out Y8A.out⟩
          | true =>
            cases heq : (e.f1 == q) with
            | false =>
              have SV3 : Aside0 (sentV i q true L false = none) := ⟨by rw [SV2.out, if_neg (by rintro ⟨_, h⟩; exact (by simpa using heq : ¬ e.f1 = q) h)]⟩
              have hn : (e.f1 != q) = true := by simpa using heq
              refine wp_region_held_drew (S := fun W' => Below w4.heap.size w4 W') (by kernel_rfl) (below_drew1 Y7A.out) (fun Y8 => ?_)
              refine' tF 0 F ?_
              refine' tF 1 F ?_
              refine' tF 2 F ?_
              refine' tF 3 F ?_
              refine' tF 4 F ?_
              refine' tF 5 F ?_
              refine' tF 6 F ?_
              refine' tF 7 F ?_
              refine' tF 8 F ?_
              refine' tF 9 F ?_
              refine' tF 10 F ?_
              refine' tF 11 F ?_
              refine' tF 12 F ?_
              refine' tF 13 F ?_
              refine wpAnyH_done (by kernel_rfl) ?_ _
              clear F
              have Y8A := mz Y8
              clear Y8
              go_wp2_with fail
              go_ret
              exact ⟨by rw [isAtV_none hgn (by rw [← HLD.out]; exact SV3.out)]; rfl, below_step HW4.out Y8A.out⟩
            | true =>
              have SV3 : Aside0 (sentV i q true L false = sentV i q true (L.drop (kk + 1)) true) := ⟨by rw [SV2.out, if_pos ⟨rfl, (by simpa using heq : e.f1 = q)⟩]⟩
              have hn : (e.f1 != q) = false := by simpa using heq
              refine wp_region_held_drew (S := fun W' => Below w4.heap.size w4 W') (by kernel_rfl) (below_drew1 Y7A.out) (fun Y8 => ?_)
              refine' tF 0 F ?_
              refine' tF 1 F ?_
              refine' tF 2 F ?_
              refine' tF 3 F ?_
              refine' tF 4 F ?_
              refine' tF 5 F ?_
              refine' tF 6 F ?_
              refine' tF 7 F ?_
              refine' tF 8 F ?_
              refine' tF 9 F ?_
              refine' tF 10 F ?_
              refine' tF 11 F ?_
              refine' tF 12 F ?_
              refine' tF 13 F ?_
              refine wpAnyH_done (by kernel_rfl) ?_ _
              clear F
              have Y8A := mz Y8
              clear Y8
              go_wp2_with fail
              go_roundg (L.length - (kk + 1))
              case measure => omega
              case rel => have hl64 := HL2.out; exact ⟨kk + 1, true, by omega, by omega, rfl, by (first | go_num | (congr 1; unfold wrap64; omega)), ⟨below_step HW4.out Y8A.out⟩, ⟨SV3.out⟩⟩
      · have hltz : ¬ (kk : Int) < (L.length : Int) := by omega
        have SV3 : Aside0 (sentV i q b L false = some sn) := ⟨by rw [SV.out, List.drop_eq_nil_of_le (by omega)]; rfl⟩
        clear SV
        go_wp2_with fail
        have hpos : True := trivial
        clear hg hkk hltz hpos
        obtain ⟨K1, hK1⟩ := Ev.rounds (lastSeq_ev l i HL.out)
        have HK1 := mz hK1
        clear hK1
        generalize hla : lastB i l 0 = la at HK1
        have HLA := mz hla
        clear hla
        have F := HF.out
        refine wp_region_held_drew (S := fun W' => Below w.heap.size w W') (by kernel_rfl) (below_drew1 BW.out) (fun Y12 => ?_)
        refine' tF 0 F ?_
        refine' tF 1 F ?_
        refine' tF 2 F ?_
        refine' tF 3 F ?_
        refine' tF 4 F ?_
        refine' tF 5 F ?_
        refine' tF 6 F ?_
        refine' tF 7 F ?_
        refine' tC 8 (impl_lastSeq.calls K1 A c l i la _ (Kd.C_below HR.out Y12) HC.out HK1.out) ?_
        rintro e' w5 ⟨rfl, hb5⟩
        refine ⟨_, rfl, below_step Y12 hb5, ?_⟩
        intro a' ha' Y13
        have HB5 := mz Y13
        (try simp only [Act.put, List.getElem_toArray, List.getElem_cons_succ, List.getElem_cons_zero, List.setIfInBounds_toArray, List.set_cons_zero, List.set_cons_succ] at ha')
        subst ha'
        clear hb5
        refine' tF 9 F ?_
        refine wpAnyH_done (by kernel_rfl) ?_ _
        clear F Y12 Y13
        go_upto_region 13 with (fail)
        go_cut [89] (fun z wc => z = .bool (decide (q < la) || (b && !sn && (la == q))) ∧ Aside0 (Below w.heap.size w wc))
        case first =>
          obtain ⟨x0, x1, x2, x3, x4, x5, x6, x7, x8, x9⟩ := HF.out _ HB5.out
          by_cases h1 : q < la
          · go_wp2_with fail
            go_meet
            case rel => exact ⟨by simp [h1], HB5⟩
          · cases b with
            | false =>
              go_wp2_with fail
              go_meet
              case rel => exact ⟨by simp [h1], HB5⟩
            | true =>
              cases sn with
              | true =>
                go_wp2_with fail
                go_meet
                case rel => exact ⟨by simp [h1], HB5⟩
              | false =>
                cases h2 : (la == q) with
                | false =>
                  go_wp2_with fail
                  go_meet
                  case rel => exact ⟨by simp [h1, h2], HB5⟩
                | true =>
                  go_wp2_with fail
                  go_meet
                  case rel => exact ⟨by simp [h1, h2], HB5⟩
        case rest =>
          clear HB5
          obtain ⟨rfl, HB5⟩ := hcut
          have hres := isAtV_some (q := q) (t := t) (a := a) (d := d) (b := b) (s5 := s5) (s6 := s6) hgn (HLD.out ▸ SV3.out)
          rw [HLA.out] at hres
          cases hbb : (decide (q < la) || (b && !sn && (la == q))) with
          | true =>
            have HRS : Aside0 (isAtV ⟨i, t, (v : Int), q, b, s5, s6, d⟩ a l = false) := ⟨by rw [hres, hbb]; rfl⟩
            clear hres hbb
            go_wp2_with fail
            go_ret
            exact ⟨by rw [HRS.out]; rfl, HB5.out⟩
          | false =>
            rw [hbb, Bool.not_false, Bool.true_and] at hres
            clear hbb
            have hTA := textAt_cells gs a A c l v wc (HF.out _ HB5.out).2.2.2.2.2.2.2.2.1 (HF.out _ HB5.out).2.2.2.2.2.2.2.2.2 (Kd.C_below HR.out HB5.out) HC.out hgn HS.out HA.out
            have hz0 := runB_size (l.take v) a HA.out
            obtain ⟨⟨u0, k0⟩, hq0⟩ : ∃ p, runB (l.take v) a = p := ⟨_, rfl⟩
            rw [hq0] at hres hTA hz0
            have HTA := mz hTA
            have HRS := mz hres
            have HZ0 := mz hz0
            clear hTA hres hq0 hz0
            obtain ⟨x0, x1, x2, x3, x4, x5, x6, x7, x8, x9⟩ := HF.out _ HB5.out
            cases k0 with
            | false =>
              have HFI : Aside0 (isAtV ⟨i, t, (v : Int), q, b, s5, s6, d⟩ a l = false) := ⟨by rw [HRS.out]; simp [afterV]⟩
              clear HRS
              go_wp2_with (first | (go_at_call 56; refine HTA.out.mono ?_; rintro e w6 ⟨rfl, hb6⟩; have HB6 := mz (below_step HB5.out hb6); clear hb6 x0 x1 x2 x3 x4 x5 x6 x7 x8 x9; obtain ⟨x0, x1, x2, x3, x4, x5, x6, x7, x8, x9⟩ := HF.out _ HB6.out))
              go_ret
              exact ⟨by rw [HFI.out]; rfl, HB6.out⟩
            | true =>
              cases b with
              | false =>
                cases d with
                | false =>
                  cases hut : (u0.toList == t.toList) with
                  | false =>
                    have hne : Aside0 (decide (u0 = t) = false) := ⟨decide_eq_false (fun h => by rw [h] at hut; simp at hut)⟩
                    have HFI : Aside0 (isAtV ⟨i, t, (v : Int), q, false, s5, s6, false⟩ a l = false) := ⟨by rw [HRS.out]; simp [afterV, hne.out, Bool.true_and]⟩
                    clear HRS
                    go_wp2_with (first | (go_at_call 56; refine HTA.out.mono ?_; rintro e w6 ⟨rfl, hb6⟩; have HB6 := mz (below_step HB5.out hb6); clear hb6 x0 x1 x2 x3 x4 x5 x6 x7 x8 x9; obtain ⟨x0, x1, x2, x3, x4, x5, x6, x7, x8, x9⟩ := HF.out _ HB6.out))
                    go_ret
                    exact ⟨by rw [HFI.out]; rfl, HB6.out⟩
                  | true =>
                    have hne : Aside0 (u0 = t) := ⟨ba_ext (by simpa using hut)⟩
                    have HFI : Aside0 (isAtV ⟨i, t, (v : Int), q, false, s5, s6, false⟩ a l = true) := ⟨by rw [HRS.out]; simp [afterV, hne.out, Bool.true_and]⟩
                    clear HRS
                    go_wp2_with (first | (go_at_call 56; refine HTA.out.mono ?_; rintro e w6 ⟨rfl, hb6⟩; have HB6 := mz (below_step HB5.out hb6); clear hb6 x0 x1 x2 x3 x4 x5 x6 x7 x8 x9; obtain ⟨x0, x1, x2, x3, x4, x5, x6, x7, x8, x9⟩ := HF.out _ HB6.out))
                    go_ret
                    exact ⟨by rw [HFI.out]; rfl, HB6.out⟩
                | true =>
                  obtain ⟨K2, hK2⟩ := Ev.rounds (implApply_ev s6 u0 HS6.out HZ0.out)
                  obtain ⟨⟨u2, k2⟩, hq2⟩ : ∃ p, applyV s6 u0 = p := ⟨_, rfl⟩
                  rw [hq2] at hK2
                  have HK2 := mz hK2
                  have HQ2 := mz hq2
                  clear hK2 hq2
                  cases k2 with
                  | false =>
                    have HFI : Aside0 (isAtV ⟨i, t, (v : Int), q, false, s5, s6, true⟩ a l = false) := ⟨by rw [HRS.out]; simp [afterV, Bool.true_and, HQ2.out]⟩
                    clear HRS
                    go_wp2_with (first | (go_at_call 56; refine HTA.out.mono ?_; rintro e w6 ⟨rfl, hb6⟩; have HB6 := mz (below_step HB5.out hb6); clear hb6 x0 x1 x2 x3 x4 x5 x6 x7 x8 x9; obtain ⟨x0, x1, x2, x3, x4, x5, x6, x7, x8, x9⟩ := HF.out _ HB6.out) | (go_at_call 58; (with_reducible refine (impl_ApplyOp.calls K2 A6 c6 s6 u0 u2 false _ (Kd.C_below H6.out HB6.out) HC6.out HK2.out).mono ?_); rintro e w8 ⟨rfl, hb6⟩; have HB8 := mz (below_step HB6.out hb6); clear hb6 x0 x1 x2 x3 x4 x5 x6 x7 x8 x9; obtain ⟨x0, x1, x2, x3, x4, x5, x6, x7, x8, x9⟩ := HF.out _ HB8.out))
                    go_ret
                    exact ⟨by rw [HFI.out]; rfl, HB8.out⟩
                  | true =>
                    cases hut : (u2.toList == t.toList) with
                    | false =>
                      have hne : Aside0 (decide (u2 = t) = false) := ⟨decide_eq_false (fun h => by rw [h] at hut; simp at hut)⟩
                      have HFI : Aside0 (isAtV ⟨i, t, (v : Int), q, false, s5, s6, true⟩ a l = false) := ⟨by rw [HRS.out]; simp [afterV, hne.out, Bool.true_and, HQ2.out]⟩
                      clear HRS
                      go_wp2_with (first | (go_at_call 56; refine HTA.out.mono ?_; rintro e w6 ⟨rfl, hb6⟩; have HB6 := mz (below_step HB5.out hb6); clear hb6 x0 x1 x2 x3 x4 x5 x6 x7 x8 x9; obtain ⟨x0, x1, x2, x3, x4, x5, x6, x7, x8, x9⟩ := HF.out _ HB6.out) | (go_at_call 58; (with_reducible refine (impl_ApplyOp.calls K2 A6 c6 s6 u0 u2 true _ (Kd.C_below H6.out HB6.out) HC6.out HK2.out).mono ?_); rintro e w8 ⟨rfl, hb6⟩; have HB8 := mz (below_step HB6.out hb6); clear hb6 x0 x1 x2 x3 x4 x5 x6 x7 x8 x9; obtain ⟨x0, x1, x2, x3, x4, x5, x6, x7, x8, x9⟩ := HF.out _ HB8.out))
                      go_ret
                      exact ⟨by rw [HFI.out]; rfl, HB8.out⟩
                    | true =>
                      have hne : Aside0 (u2 = t) := ⟨ba_ext (by simpa using hut)⟩
                      have HFI : Aside0 (isAtV ⟨i, t, (v : Int), q, false, s5, s6, true⟩ a l = true) := ⟨by rw [HRS.out]; simp [afterV, hne.out, Bool.true_and, HQ2.out]⟩
                      clear HRS
                      go_wp2_with (first | (go_at_call 56; refine HTA.out.mono ?_; rintro e w6 ⟨rfl, hb6⟩; have HB6 := mz (below_step HB5.out hb6); clear hb6 x0 x1 x2 x3 x4 x5 x6 x7 x8 x9; obtain ⟨x0, x1, x2, x3, x4, x5, x6, x7, x8, x9⟩ := HF.out _ HB6.out) | (go_at_call 58; (with_reducible refine (impl_ApplyOp.calls K2 A6 c6 s6 u0 u2 true _ (Kd.C_below H6.out HB6.out) HC6.out HK2.out).mono ?_); rintro e w8 ⟨rfl, hb6⟩; have HB8 := mz (below_step HB6.out hb6); clear hb6 x0 x1 x2 x3 x4 x5 x6 x7 x8 x9; obtain ⟨x0, x1, x2, x3, x4, x5, x6, x7, x8, x9⟩ := HF.out _ HB8.out))
                      go_ret
                      exact ⟨by rw [HFI.out]; rfl, HB8.out⟩
              | true =>
                obtain ⟨K1, hK1⟩ := Ev.rounds (implApply_ev s5 u0 HS5.out HZ0.out)
                have hz1 := applyV_size s5 u0
                obtain ⟨⟨u1, k1⟩, hq1⟩ : ∃ p, applyV s5 u0 = p := ⟨_, rfl⟩
                rw [hq1] at hK1 hz1
                have HK1 := mz hK1
                have HQ1 := mz hq1
                have HZ1 : Aside0 (u1.size ≤ maxLen) := ⟨Nat.le_trans hz1 (by unfold maxLen; omega)⟩
                clear hK1 hq1 hz1
                cases k1 with
                | false =>
                  have HFI : Aside0 (isAtV ⟨i, t, (v : Int), q, true, s5, s6, d⟩ a l = false) := ⟨by rw [HRS.out]; simp [afterV, HQ1.out]⟩
                  clear HRS
                  go_wp2_with (first | (go_at_call 56; refine HTA.out.mono ?_; rintro e w6 ⟨rfl, hb6⟩; have HB6 := mz (below_step HB5.out hb6); clear hb6 x0 x1 x2 x3 x4 x5 x6 x7 x8 x9; obtain ⟨x0, x1, x2, x3, x4, x5, x6, x7, x8, x9⟩ := HF.out _ HB6.out) | (go_at_call 58; (with_reducible refine (impl_ApplyOp.calls K1 A5 c5 s5 u0 u1 false _ (Kd.C_below H5.out HB6.out) HC5.out HK1.out).mono ?_); rintro e w7 ⟨rfl, hb6⟩; have HB7 := mz (below_step HB6.out hb6); clear hb6 x0 x1 x2 x3 x4 x5 x6 x7 x8 x9; obtain ⟨x0, x1, x2, x3, x4, x5, x6, x7, x8, x9⟩ := HF.out _ HB7.out))
                  go_ret
                  exact ⟨by rw [HFI.out]; rfl, HB7.out⟩
                | true =>
                  cases d with
                  | false =>
                    cases hut : (u1.toList == t.toList) with
                    | false =>
                      have hne : Aside0 (decide (u1 = t) = false) := ⟨decide_eq_false (fun h => by rw [h] at hut; simp at hut)⟩
                      have HFI : Aside0 (isAtV ⟨i, t, (v : Int), q, true, s5, s6, false⟩ a l = false) := ⟨by rw [HRS.out]; simp [afterV, hne.out, HQ1.out]⟩
                      clear HRS
                      go_wp2_with (first | (go_at_call 56; refine HTA.out.mono ?_; rintro e w6 ⟨rfl, hb6⟩; have HB6 := mz (below_step HB5.out hb6); clear hb6 x0 x1 x2 x3 x4 x5 x6 x7 x8 x9; obtain ⟨x0, x1, x2, x3, x4, x5, x6, x7, x8, x9⟩ := HF.out _ HB6.out) | (go_at_call 58; (with_reducible refine (impl_ApplyOp.calls K1 A5 c5 s5 u0 u1 true _ (Kd.C_below H5.out HB6.out) HC5.out HK1.out).mono ?_); rintro e w7 ⟨rfl, hb6⟩; have HB7 := mz (below_step HB6.out hb6); clear hb6 x0 x1 x2 x3 x4 x5 x6 x7 x8 x9; obtain ⟨x0, x1, x2, x3, x4, x5, x6, x7, x8, x9⟩ := HF.out _ HB7.out))
                      go_ret
                      exact ⟨by rw [HFI.out]; rfl, HB7.out⟩
                    | true =>
                      have hne : Aside0 (u1 = t) := ⟨ba_ext (by simpa using hut)⟩
                      have HFI : Aside0 (isAtV ⟨i, t, (v : Int), q, true, s5, s6, false⟩ a l = true) := ⟨by rw [HRS.out]; simp [afterV, hne.out, HQ1.out]⟩
                      clear HRS
                      go_wp2_with (first | (go_at_call 56; refine HTA.out.mono ?_; rintro e w6 ⟨rfl, hb6⟩; have HB6 := mz (below_step HB5.out hb6); clear hb6 x0 x1 x2 x3 x4 x5 x6 x7 x8 x9; obtain ⟨x0, x1, x2, x3, x4, x5, x6, x7, x8, x9⟩ := HF.out _ HB6.out) | (go_at_call 58; (with_reducible refine (impl_ApplyOp.calls K1 A5 c5 s5 u0 u1 true _ (Kd.C_below H5.out HB6.out) HC5.out HK1.out).mono ?_); rintro e w7 ⟨rfl, hb6⟩; have HB7 := mz (below_step HB6.out hb6); clear hb6 x0 x1 x2 x3 x4 x5 x6 x7 x8 x9; obtain ⟨x0, x1, x2, x3, x4, x5, x6, x7, x8, x9⟩ := HF.out _ HB7.out))
                      go_ret
                      exact ⟨by rw [HFI.out]; rfl, HB7.out⟩
                  | true =>
                    obtain ⟨K2, hK2⟩ := Ev.rounds (implApply_ev s6 u1 HS6.out HZ1.out)
                    obtain ⟨⟨u2, k2⟩, hq2⟩ : ∃ p, applyV s6 u1 = p := ⟨_, rfl⟩
                    rw [hq2] at hK2
                    have HK2 := mz hK2
                    have HQ2 := mz hq2
                    clear hK2 hq2
                    cases k2 with
                    | false =>
                      have HFI : Aside0 (isAtV ⟨i, t, (v : Int), q, true, s5, s6, true⟩ a l = false) := ⟨by rw [HRS.out]; simp [afterV, HQ1.out, HQ2.out]⟩
                      clear HRS
                      go_wp2_with (first | (go_at_call 56; refine HTA.out.mono ?_; rintro e w6 ⟨rfl, hb6⟩; have HB6 := mz (below_step HB5.out hb6); clear hb6 x0 x1 x2 x3 x4 x5 x6 x7 x8 x9; obtain ⟨x0, x1, x2, x3, x4, x5, x6, x7, x8, x9⟩ := HF.out _ HB6.out) | (go_at_call 58; (with_reducible refine (impl_ApplyOp.calls K1 A5 c5 s5 u0 u1 true _ (Kd.C_below H5.out HB6.out) HC5.out HK1.out).mono ?_); rintro e w7 ⟨rfl, hb6⟩; have HB7 := mz (below_step HB6.out hb6); clear hb6 x0 x1 x2 x3 x4 x5 x6 x7 x8 x9; obtain ⟨x0, x1, x2, x3, x4, x5, x6, x7, x8, x9⟩ := HF.out _ HB7.out) | (go_at_call 58; (with_reducible refine (impl_ApplyOp.calls K2 A6 c6 s6 u1 u2 false _ (Kd.C_below H6.out HB7.out) HC6.out HK2.out).mono ?_); rintro e w8 ⟨rfl, hb6⟩; have HB8 := mz (below_step HB7.out hb6); clear hb6 x0 x1 x2 x3 x4 x5 x6 x7 x8 x9; obtain ⟨x0, x1, x2, x3, x4, x5, x6, x7, x8, x9⟩ := HF.out _ HB8.out))
                      go_ret
                      exact ⟨by rw [HFI.out]; rfl, HB8.out⟩
                    | true =>
                      cases hut : (u2.toList == t.toList) with
                      | false =>
                        have hne : Aside0 (decide (u2 = t) = false) := ⟨decide_eq_false (fun h => by rw [h] at hut; simp at hut)⟩
                        have HFI : Aside0 (isAtV ⟨i, t, (v : Int), q, true, s5, s6, true⟩ a l = false) := ⟨by rw [HRS.out]; simp [afterV, hne.out, HQ1.out, HQ2.out]⟩
                        clear HRS
                        go_wp2_with (first | (go_at_call 56; refine HTA.out.mono ?_; rintro e w6 ⟨rfl, hb6⟩; have HB6 := mz (below_step HB5.out hb6); clear hb6 x0 x1 x2 x3 x4 x5 x6 x7 x8 x9; obtain ⟨x0, x1, x2, x3, x4, x5, x6, x7, x8, x9⟩ := HF.out _ HB6.out) | (go_at_call 58; (with_reducible refine (impl_ApplyOp.calls K1 A5 c5 s5 u0 u1 true _ (Kd.C_below H5.out HB6.out) HC5.out HK1.out).mono ?_); rintro e w7 ⟨rfl, hb6⟩; have HB7 := mz (below_step HB6.out hb6); clear hb6 x0 x1 x2 x3 x4 x5 x6 x7 x8 x9; obtain ⟨x0, x1, x2, x3, x4, x5, x6, x7, x8, x9⟩ := HF.out _ HB7.out) | (go_at_call 58; (with_reducible refine (impl_ApplyOp.calls K2 A6 c6 s6 u1 u2 true _ (Kd.C_below H6.out HB7.out) HC6.out HK2.out).mono ?_); rintro e w8 ⟨rfl, hb6⟩; have HB8 := mz (below_step HB7.out hb6); clear hb6 x0 x1 x2 x3 x4 x5 x6 x7 x8 x9; obtain ⟨x0, x1, x2, x3, x4, x5, x6, x7, x8, x9⟩ := HF.out _ HB8.out))
                        go_ret
                        exact ⟨by rw [HFI.out]; rfl, HB8.out⟩
                      | true =>
                        have hne : Aside0 (u2 = t) := ⟨ba_ext (by simpa using hut)⟩
                        have HFI : Aside0 (isAtV ⟨i, t, (v : Int), q, true, s5, s6, true⟩ a l = true) := ⟨by rw [HRS.out]; simp [afterV, hne.out, HQ1.out, HQ2.out]⟩
                        clear HRS
                        go_wp2_with (first | (go_at_call 56; refine HTA.out.mono ?_; rintro e w6 ⟨rfl, hb6⟩; have HB6 := mz (below_step HB5.out hb6); clear hb6 x0 x1 x2 x3 x4 x5 x6 x7 x8 x9; obtain ⟨x0, x1, x2, x3, x4, x5, x6, x7, x8, x9⟩ := HF.out _ HB6.out) | (go_at_call 58; (with_reducible refine (impl_ApplyOp.calls K1 A5 c5 s5 u0 u1 true _ (Kd.C_below H5.out HB6.out) HC5.out HK1.out).mono ?_); rintro e w7 ⟨rfl, hb6⟩; have HB7 := mz (below_step HB6.out hb6); clear hb6 x0 x1 x2 x3 x4 x5 x6 x7 x8 x9; obtain ⟨x0, x1, x2, x3, x4, x5, x6, x7, x8, x9⟩ := HF.out _ HB7.out) | (go_at_call 58; (with_reducible refine (impl_ApplyOp.calls K2 A6 c6 s6 u1 u2 true _ (Kd.C_below H6.out HB7.out) HC6.out HK2.out).mono ?_); rintro e w8 ⟨rfl, hb6⟩; have HB8 := mz (below_step HB7.out hb6); clear hb6 x0 x1 x2 x3 x4 x5 x6 x7 x8 x9; obtain ⟨x0, x1, x2, x3, x4, x5, x6, x7, x8, x9⟩ := HF.out _ HB8.out))
                        go_ret
                        exact ⟨by rw [HFI.out]; rfl, HB8.out⟩
end Go.Proofs.Ytoldjejfninhkaa.X
