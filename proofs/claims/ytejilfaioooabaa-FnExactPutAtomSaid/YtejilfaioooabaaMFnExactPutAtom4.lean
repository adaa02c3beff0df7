/- The law FnExactPutAtom of the program: its proof, part 4. -/
import Derived.Test.YtejilfaioooabaaMFnExactPutAtom2
import Derived.Test.YtejilfaioooabaaMFnExactPutAtom3
import Derived.Shelf.Abstract
import Derived.Shelf.SlicesE.DeleteFunc
import Derived.Lib.OwnBridge
import Derived.WalkSpells
set_option linter.unusedVariables false
set_option linter.unusedSimpArgs false
namespace Go.Proofs.Ytejilfaioooabaa.X
open Go.RowKit Go.Proofs.YtejilfaioooabaaW.PrintWords Go.Proofs.YtejilfaioooabaaW.PrintLast Go.Proofs.YtejilfaioooabaaW.PrintMore
section
attribute [local go_sem] max2_int min2_int max_two min_two max_three min_three max_four min_four
def laws_szAtomS.l0 : Nat → List (S50) → Int → Int → Option (Int)
  | 0, _, _, _ => none
  | k + 1, x0, x1, x5 => if x5 < (x0.length : Int) then (if 0 ≤ x5 then ((laws_szAtom.f ((rd_T50 x0 x5).f0) ((rd_T50 x0 x5).f1) ((rd_T50 x0 x5).f2) ((rd_T50 x0 x5).f3) ((rd_T50 x0 x5).f4) ((rd_T50 x0 x5).f5) x1).bind fun t102 => (if t102 < 0 then (some (-1)) else (laws_szAtomS.l0 k x0 t102 (wrap64 (x5 + 1))))) else (none)) else (some x1)
def laws_szAtomS.f (k : Nat) (l0 : List (S50)) (a1 : Int) : Option (Int) := if (wrap64 (a1 - (l0.length : Int))) < 0 then (some (-1)) else (laws_szAtomS.l0 k l0 (wrap64 (a1 - (l0.length : Int))) 0)
set_option maxHeartbeats 8000000 in
set_option maxRecDepth 100000 in
theorem laws_szAtomS.calls (k : Nat) (A0 : Option Addr) (c0 : Nat) (l0 : List (S50)) (a1 : Int) (r : Int) (w : World) (hr0 : Kd.C k50 w A0 l0.length l0) (hc0 : l0.length ≤ c0) (h : laws_szAtomS.f k l0 a1 = some r) :
    Calls Try.prog 11 #[.slice A0 l0.length c0, .int .i64 a1] w fun e w' => e = .returned (.int .i64 r) ∧ Below w.heap.size w w' := by
  have hu50 := Try.underlying50
  have HR0 := mz hr0
  have HC0 := mz hc0
  clear hr0 hc0
  have HB := mz (Below.refl w.heap.size w)
  have H : (if (wrap64 (a1 - (l0.length : Int))) < 0 then (some (-1)) else (laws_szAtomS.l0 k l0 (wrap64 (a1 - (l0.length : Int))) 0)) = some r := h
  clear h
  by_cases c3 : (wrap64 (a1 - (l0.length : Int))) < 0
  · rw [if_pos c3] at H
    have c3b0 : decide ((wrap64 (a1 - (l0.length : Int))) < 0) = true := decide_eq_true c3
    clear c3
    obtain rfl := Option.some.inj H
    go_enter Try.func11, Try.ntmps11
    go_wp2
    go_ret
    exact ⟨by first | rfl | (simp [errW_none, errW_some] <;> rfl) | (simp [*, errW_none, errW_some] <;> rfl), by repeat (first | (with_reducible first | exact HB.out | apply below_alloc | apply pw_below_drewN | apply below_drew1) | exact HB.out)⟩
  · rw [if_neg c3] at H
    have c3b0 : decide ((wrap64 (a1 - (l0.length : Int))) < 0) = false := decide_eq_false c3
    clear c3
    have H' := mz H
    clear H
    go_enter Try.func11, Try.ntmps11
    go_wp2
    go_loopg [1, 5] k (fun kq v1 v5 w' => ∃ (x1_1 : Int) (x5_1 : Int), v1 = .int .i64 x1_1 ∧ v5 = .int .i64 x5_1 ∧ Aside0 (laws_szAtomS.l0 kq l0 x1_1 x5_1 = some r) ∧ Aside0 (kq ≤ k) ∧ Aside0 (Below w.heap.size w w'))
    case atStart => exact ⟨(wrap64 (a1 - (l0.length : Int))), (0), (by first | rfl | (simp; done) | (simp [*]; done)), (by first | rfl | (simp; done) | (simp [*]; done)), H', ⟨Nat.le_refl _⟩, ⟨by repeat (first | (with_reducible first | exact HB.out | apply below_alloc | apply pw_below_drewN | apply below_drew1) | exact HB.out)⟩⟩
    case round =>
      clear H'
      try clear c1
      try clear p2
      try clear c3
      try clear c3b0
      obtain ⟨x1_1, x5_1, rfl, rfl, HA, HK1, HB⟩ := hrel
      cases gk with
      | zero => exact absurd HA.out (by simp [laws_szAtomS.l0])
      | succ k1 =>
        have H := HA.out
        clear HA
        simp only [laws_szAtomS.l0] at H
        by_cases c4 : x5_1 < (l0.length : Int)
        · rw [if_pos c4] at H
          have c4b0 : decide (x5_1 < (l0.length : Int)) = true := decide_eq_true c4
          clear c4
          by_cases c5 : 0 ≤ x5_1
          · rw [if_pos c5] at H
            have c5b0 : decide (0 ≤ x5_1) = true := decide_eq_true c5
            clear c5
            replace H := be0_ H
            obtain ⟨t102, A60, H⟩ := H
            replace H : (if t102 < 0 then (some (-1)) else (laws_szAtomS.l0 k1 l0 t102 (wrap64 (x5_1 + 1)))) = some r := H
            have A6 := mz A60
            clear A60
            by_cases c7 : t102 < 0
            · rw [if_pos c7] at H
              have c7b0 : decide (t102 < 0) = true := decide_eq_true c7
              clear c7
              obtain rfl := Option.some.inj H
              have p101 : 0 ≤ (x5_1 : Int) := of_decide_eq_true (by first | (with_reducible assumption) | assumption)
              have q101 : x5_1 < (l0.length : Int) := of_decide_eq_true (by first | (with_reducible assumption) | assumption)
              obtain ⟨ad101, e101, hx101_0, hx101_1, hx101_2, hx101_3, hx101_4, hx101_5⟩ := at_T50 HR0.out x5_1 p101 q101
              cases e101
              replace hx101_0 := bc_ HB.out hx101_0
              replace hx101_1 := bc_ HB.out hx101_1
              replace hx101_2 := bc_ HB.out hx101_2
              replace hx101_3 := bc_ HB.out hx101_3
              replace hx101_4 := bc_ HB.out hx101_4
              replace hx101_5 := bc_ HB.out hx101_5
              replace p101 := eq_true p101
              replace q101 := eq_true q101
              go_wp2_with (first | ((with_reducible refine gate_callee (f := 24) rfl ?_); refine goesL_ (some 23) rfl rfl Try.func24 (by kernel_rfl) rfl #[.agg #[.int .i64 ((rd_T50 l0 x5_1).f0), .int .i64 ((rd_T50 l0 x5_1).f1), .int .i64 ((rd_T50 l0 x5_1).f2), .int .i64 ((rd_T50 l0 x5_1).f3), .string ((rd_T50 l0 x5_1).f4), .bool ((rd_T50 l0 x5_1).f5)], .int .i64 x1_1] rfl (by (try simp only [List.map_toArray, List.map_cons, List.map_nil]); first | done | rfl | (simp only [List.length_drop, List.length_take]; rfl)) ?_; (with_reducible refine (laws_szAtom.calls ((rd_T50 l0 x5_1).f0) ((rd_T50 l0 x5_1).f1) ((rd_T50 l0 x5_1).f2) ((rd_T50 l0 x5_1).f3) ((rd_T50 l0 x5_1).f4) ((rd_T50 l0 x5_1).f5) x1_1 t102 _ A6.out).mono ?_); rintro e w8 ⟨rfl, hb⟩; refine ⟨_, rfl, ?_⟩; have n0_ := mz (below_step (by repeat (first | (with_reducible first | exact HB.out | apply below_alloc | apply pw_below_drewN | apply below_drew1) | exact HB.out)) hb); clear HB; have HB := n0_; clear n0_; (try clear hb); (try clear hb2); (try clear hk); (try clear hi)))
              go_ret
              exact ⟨by first | rfl | (simp [errW_none, errW_some] <;> rfl) | (simp [*, errW_none, errW_some] <;> rfl), by repeat (first | (with_reducible first | exact HB.out | apply below_alloc | apply pw_below_drewN | apply below_drew1) | exact HB.out)⟩
            · rw [if_neg c7] at H
              have c7b0 : decide (t102 < 0) = false := decide_eq_false c7
              clear c7
              have H' := mz H
              clear H
              have p101 : 0 ≤ (x5_1 : Int) := of_decide_eq_true (by first | (with_reducible assumption) | assumption)
              have q101 : x5_1 < (l0.length : Int) := of_decide_eq_true (by first | (with_reducible assumption) | assumption)
              obtain ⟨ad101, e101, hx101_0, hx101_1, hx101_2, hx101_3, hx101_4, hx101_5⟩ := at_T50 HR0.out x5_1 p101 q101
              cases e101
              replace hx101_0 := bc_ HB.out hx101_0
              replace hx101_1 := bc_ HB.out hx101_1
              replace hx101_2 := bc_ HB.out hx101_2
              replace hx101_3 := bc_ HB.out hx101_3
              replace hx101_4 := bc_ HB.out hx101_4
              replace hx101_5 := bc_ HB.out hx101_5
              replace p101 := eq_true p101
              replace q101 := eq_true q101
              go_wp2_with (first | ((with_reducible refine gate_callee (f := 24) rfl ?_); refine goesL_ (some 23) rfl rfl Try.func24 (by kernel_rfl) rfl #[.agg #[.int .i64 ((rd_T50 l0 x5_1).f0), .int .i64 ((rd_T50 l0 x5_1).f1), .int .i64 ((rd_T50 l0 x5_1).f2), .int .i64 ((rd_T50 l0 x5_1).f3), .string ((rd_T50 l0 x5_1).f4), .bool ((rd_T50 l0 x5_1).f5)], .int .i64 x1_1] rfl (by (try simp only [List.map_toArray, List.map_cons, List.map_nil]); first | done | rfl | (simp only [List.length_drop, List.length_take]; rfl)) ?_; (with_reducible refine (laws_szAtom.calls ((rd_T50 l0 x5_1).f0) ((rd_T50 l0 x5_1).f1) ((rd_T50 l0 x5_1).f2) ((rd_T50 l0 x5_1).f3) ((rd_T50 l0 x5_1).f4) ((rd_T50 l0 x5_1).f5) x1_1 t102 _ A6.out).mono ?_); rintro e w9 ⟨rfl, hb⟩; refine ⟨_, rfl, ?_⟩; have n0_ := mz (below_step (by repeat (first | (with_reducible first | exact HB.out | apply below_alloc | apply pw_below_drewN | apply below_drew1) | exact HB.out)) hb); clear HB; have HB := n0_; clear n0_; (try clear hb); (try clear hb2); (try clear hk); (try clear hi)))
              go_roundg k1
              case measure => have := HK1.out; omega
              case rel => exact ⟨(t102), (wrap64 (x5_1 + 1)), (by first | rfl | (simp; done) | (simp [*]; done)), (by first | rfl | (simp; done) | (simp [*]; done)), H', ⟨by have := HK1.out; omega⟩, ⟨by repeat (first | (with_reducible first | exact HB.out | apply below_alloc | apply pw_below_drewN | apply below_drew1) | exact HB.out)⟩⟩
          · rw [if_neg c5] at H
            exact absurd H (by simp)
        · rw [if_neg c4] at H
          have c4b0 : decide (x5_1 < (l0.length : Int)) = false := decide_eq_false c4
          clear c4
          obtain rfl := Option.some.inj H
          go_wp2
          go_ret
          exact ⟨by first | rfl | (simp [errW_none, errW_some] <;> rfl) | (simp [*, errW_none, errW_some] <;> rfl), by repeat (first | (with_reducible first | exact HB.out | apply below_alloc | apply pw_below_drewN | apply below_drew1) | exact HB.out)⟩
end
section
attribute [local go_sem] max2_int min2_int max_two min_two max_three min_three max_four min_four
def laws_szSeq.f (k : Nat) (l0_0 : List (S50)) (a1 : Int) : Option (Int) := (laws_szAtomS.f k l0_0 a1).bind fun t102 => (if t102 < 0 then (some (-1)) else (some t102))
set_option maxHeartbeats 8000000 in
set_option maxRecDepth 100000 in
theorem laws_szSeq.calls (k : Nat) (A0_0 : Option Addr) (c0_0 : Nat) (l0_0 : List (S50)) (a1 : Int) (r : Int) (w : World) (hr0_0 : Kd.C k50 w A0_0 l0_0.length l0_0) (hc0_0 : l0_0.length ≤ c0_0) (h : laws_szSeq.f k l0_0 a1 = some r) :
    Calls Try.prog 4 #[.agg #[.slice A0_0 l0_0.length c0_0], .int .i64 a1] w fun e w' => e = .returned (.int .i64 r) ∧ Below w.heap.size w w' := by
  have hu24 := Try.underlying24
  have HR0_0 := mz hr0_0
  have HC0_0 := mz hc0_0
  clear hr0_0 hc0_0
  have HB := mz (Below.refl w.heap.size w)
  have H : ((laws_szAtomS.f k l0_0 a1).bind fun t102 => (if t102 < 0 then (some (-1)) else (some t102))) = some r := h
  clear h
  replace H := be0_ H
  obtain ⟨t102, A30, H⟩ := H
  replace H : (if t102 < 0 then (some (-1)) else (some t102)) = some r := H
  have A3 := mz A30
  clear A30
  by_cases c4 : t102 < 0
  · rw [if_pos c4] at H
    have c4b0 : decide (t102 < 0) = true := decide_eq_true c4
    clear c4
    obtain rfl := Option.some.inj H
    go_enter Try.func4, Try.ntmps4
    go_wp2_with (first | ((with_reducible refine gate_dst (N := 2) rfl ?_); refine box_event ?hg (N := 2) ?hd (cs := #[.slice A0_0 l0_0.length c0_0]) (t := 24) ?hr ?_; (case hd => rfl); (case hg => rfl); (case hr => first | (go_simp; done) | (go_simp; rfl)); intro gb101 hg w5 hbox hb; have n0_ := mz (below_step (by repeat (first | (with_reducible first | exact HB.out | apply below_alloc | apply pw_below_drewN | apply below_drew1) | exact HB.out)) hb); have n1_ := mz (hbox); have n2_ := mz ((by rw [hg]; exact (below_size (by repeat (first | (with_reducible first | exact HB.out | apply below_alloc | apply pw_below_drewN | apply below_drew1) | exact HB.out))) : w.heap.size ≤ gb101)); have n3_ := mz ((by rw [hg]; exact (below_size (by repeat (first | (with_reducible first | exact HB.out | apply below_alloc | apply pw_below_drewN | apply below_drew1) | exact HB.out))) : w.heap.size ≤ gb101)); clear HB; have HB := n0_; have BK101 := n1_; have GW101 := n2_; have GE101 := n3_; clear n0_ n1_ n2_ n3_; clear hb hbox hg; have hcz6_0 : w5.cell? ⟨gb101, 0, none⟩ = some (.slice A0_0 l0_0.length c0_0) := (blk_cell BK101.out 0).trans rfl; have hfz6_0 := blk_frozen BK101.out 0) | ((with_reducible refine gate_callee (f := 11) rfl ?_); refine goesL_ (some 8) rfl rfl Try.func11 (by kernel_rfl) rfl #[.slice A0_0 l0_0.length c0_0, .int .i64 a1] rfl (by (try simp only [List.map_toArray, List.map_cons, List.map_nil]); first | done | rfl | (simp only [List.length_drop, List.length_take]; rfl)) ?_; (with_reducible refine (laws_szAtomS.calls k _ _ l0_0 a1 t102 _ ?side1 ?side2 A3.out).mono ?_); (case side1 => repeat (first | exact (Kd.C_below HR0_0.out HB.out) | (with_reducible refine Kd.C_alloc ?_ _) | (with_reducible refine Kd.C_drewN ?_ _) | (with_reducible refine Kd.C_drew ?_))); (case side2 => exact HC0_0.out); rintro e w7 ⟨rfl, hb⟩; refine ⟨_, rfl, ?_⟩; have n0_ := mz (blk_below (g := gb101) (o := .cells #[.slice A0_0 l0_0.length c0_0] 24 (0, 0)) (by (with_reducible repeat (first | refine blk_drewN ?_ _ | refine blk_drew ?_ | refine blk_alloc ?_ _)); exact BK101.out) hb); have n1_ := mz (below_step (by repeat (first | (with_reducible first | exact HB.out | apply below_alloc | apply pw_below_drewN | apply below_drew1 | refine below_set ?_ GE101.out) | exact HB.out)) hb); clear BK101; clear HB; have BK101 := n0_; have HB := n1_; clear n0_ n1_; (try clear hb); (try clear hb2); (try clear hk); (try clear hi)))
    go_ret
    exact ⟨by first | rfl | (simp [errW_none, errW_some] <;> rfl) | (simp [*, errW_none, errW_some] <;> rfl), by repeat (first | (with_reducible first | exact HB.out | apply below_alloc | apply pw_below_drewN | apply below_drew1 | refine below_set ?_ GE101.out) | exact HB.out)⟩
  · rw [if_neg c4] at H
    have c4b0 : decide (t102 < 0) = false := decide_eq_false c4
    clear c4
    obtain rfl := Option.some.inj H
    go_enter Try.func4, Try.ntmps4
    go_wp2_with (first | ((with_reducible refine gate_dst (N := 2) rfl ?_); refine box_event ?hg (N := 2) ?hd (cs := #[.slice A0_0 l0_0.length c0_0]) (t := 24) ?hr ?_; (case hd => rfl); (case hg => rfl); (case hr => first | (go_simp; done) | (go_simp; rfl)); intro gb101 hg w8 hbox hb; have n0_ := mz (below_step (by repeat (first | (with_reducible first | exact HB.out | apply below_alloc | apply pw_below_drewN | apply below_drew1) | exact HB.out)) hb); have n1_ := mz (hbox); have n2_ := mz ((by rw [hg]; exact (below_size (by repeat (first | (with_reducible first | exact HB.out | apply below_alloc | apply pw_below_drewN | apply below_drew1) | exact HB.out))) : w.heap.size ≤ gb101)); have n3_ := mz ((by rw [hg]; exact (below_size (by repeat (first | (with_reducible first | exact HB.out | apply below_alloc | apply pw_below_drewN | apply below_drew1) | exact HB.out))) : w.heap.size ≤ gb101)); clear HB; have HB := n0_; have BK101 := n1_; have GW101 := n2_; have GE101 := n3_; clear n0_ n1_ n2_ n3_; clear hb hbox hg; have hcz9_0 : w8.cell? ⟨gb101, 0, none⟩ = some (.slice A0_0 l0_0.length c0_0) := (blk_cell BK101.out 0).trans rfl; have hfz9_0 := blk_frozen BK101.out 0) | ((with_reducible refine gate_callee (f := 11) rfl ?_); refine goesL_ (some 8) rfl rfl Try.func11 (by kernel_rfl) rfl #[.slice A0_0 l0_0.length c0_0, .int .i64 a1] rfl (by (try simp only [List.map_toArray, List.map_cons, List.map_nil]); first | done | rfl | (simp only [List.length_drop, List.length_take]; rfl)) ?_; (with_reducible refine (laws_szAtomS.calls k _ _ l0_0 a1 t102 _ ?side1 ?side2 A3.out).mono ?_); (case side1 => repeat (first | exact (Kd.C_below HR0_0.out HB.out) | (with_reducible refine Kd.C_alloc ?_ _) | (with_reducible refine Kd.C_drewN ?_ _) | (with_reducible refine Kd.C_drew ?_))); (case side2 => exact HC0_0.out); rintro e w10 ⟨rfl, hb⟩; refine ⟨_, rfl, ?_⟩; have n0_ := mz (blk_below (g := gb101) (o := .cells #[.slice A0_0 l0_0.length c0_0] 24 (0, 0)) (by (with_reducible repeat (first | refine blk_drewN ?_ _ | refine blk_drew ?_ | refine blk_alloc ?_ _)); exact BK101.out) hb); have n1_ := mz (below_step (by repeat (first | (with_reducible first | exact HB.out | apply below_alloc | apply pw_below_drewN | apply below_drew1 | refine below_set ?_ GE101.out) | exact HB.out)) hb); clear BK101; clear HB; have BK101 := n0_; have HB := n1_; clear n0_ n1_; (try clear hb); (try clear hb2); (try clear hk); (try clear hi)))
    go_ret
    exact ⟨by first | rfl | (simp [errW_none, errW_some] <;> rfl) | (simp [*, errW_none, errW_some] <;> rfl), by repeat (first | (with_reducible first | exact HB.out | apply below_alloc | apply pw_below_drewN | apply below_drew1 | refine below_set ?_ GE101.out) | exact HB.out)⟩
end
section
attribute [local go_sem] max2_int min2_int max_two min_two max_three min_three max_four min_four
def laws_toAtom.f (a0_0 : Int) (a0_1 : Int) (a0_2 : Int) (a0_3 : Int) (a0_4 : ByteArray) (a0_5 : Bool) : Option (Int × Int × Int × Int × ByteArray × Bool) := some (a0_0, a0_1, a0_2, a0_3, a0_4, a0_5)
set_option maxHeartbeats 8000000 in
set_option maxRecDepth 100000 in
theorem laws_toAtom.calls (a0_0 : Int) (a0_1 : Int) (a0_2 : Int) (a0_3 : Int) (a0_4 : ByteArray) (a0_5 : Bool) (r1 : Int) (r2 : Int) (r3 : Int) (r4 : Int) (r5 : ByteArray) (r6 : Bool) (w : World) (h : laws_toAtom.f a0_0 a0_1 a0_2 a0_3 a0_4 a0_5 = some (r1, r2, r3, r4, r5, r6)) :
    Calls Try.prog 29 #[.agg #[.int .i64 a0_0, .int .i64 a0_1, .int .i64 a0_2, .int .i64 a0_3, .string a0_4, .bool a0_5]] w fun e w' => e = .returned (.agg #[.int .i64 r1, .int .i64 r2, .int .i64 r3, .int .i64 r4, .string r5, .bool r6]) ∧ Below w.heap.size w w' := by
  have hu50 := Try.underlying50
  have hu41 := Try.underlying41
  have HB := mz (Below.refl w.heap.size w)
  have H : (some (a0_0, a0_1, a0_2, a0_3, a0_4, a0_5)) = some (r1, r2, r3, r4, r5, r6) := h
  clear h
  simp only [Option.some.injEq, Prod.mk.injEq] at H
  obtain ⟨rfl, rfl, rfl, rfl, rfl, rfl⟩ := H
  go_enter Try.func29, Try.ntmps29
  go_wp2_with (first | ((with_reducible refine gate_dst (N := 1) rfl ?_); refine box_event ?hg (N := 1) ?hd (cs := #[.int .i64 a0_0, .int .i64 a0_1, .int .i64 a0_2, .int .i64 a0_3, .string a0_4, .bool a0_5]) (t := 50) ?hr ?_; (case hd => rfl); (case hg => rfl); (case hr => first | (go_simp; done) | (go_simp; rfl)); intro gb101 hg w2 hbox hb; have n0_ := mz (below_step (by repeat (first | (with_reducible first | exact HB.out | apply below_alloc | apply pw_below_drewN | apply below_drew1) | exact HB.out)) hb); have n1_ := mz (hbox); have n2_ := mz ((by rw [hg]; exact (below_size (by repeat (first | (with_reducible first | exact HB.out | apply below_alloc | apply pw_below_drewN | apply below_drew1) | exact HB.out))) : w.heap.size ≤ gb101)); have n3_ := mz ((by rw [hg]; exact (below_size (by repeat (first | (with_reducible first | exact HB.out | apply below_alloc | apply pw_below_drewN | apply below_drew1) | exact HB.out))) : w.heap.size ≤ gb101)); clear HB; have HB := n0_; have BK101 := n1_; have GW101 := n2_; have GE101 := n3_; clear n0_ n1_ n2_ n3_; clear hb hbox hg) | ((with_reducible refine gate_dst (N := 2) rfl ?_); refine box_event ?hg (N := 2) ?hd (cs := #[.int .i64 0, .int .i64 0, .int .i64 0, .int .i64 0, .string (⟨#[]⟩ : ByteArray), .bool false]) (t := 41) ?hr ?_; (case hd => rfl); (case hg => rfl); (case hr => first | (go_simp; done) | (go_simp; rfl)); intro gb102 hg w3 hbox hb; have n0_ := mz (blk_below (g := gb101) (o := .cells #[.int .i64 a0_0, .int .i64 a0_1, .int .i64 a0_2, .int .i64 a0_3, .string a0_4, .bool a0_5] 50 (0, 0)) (by (with_reducible repeat (first | refine blk_drewN ?_ _ | refine blk_drew ?_ | refine blk_alloc ?_ _)); exact BK101.out) hb); have n1_ := mz (below_step (by repeat (first | (with_reducible first | exact HB.out | apply below_alloc | apply pw_below_drewN | apply below_drew1 | refine below_set ?_ GE101.out) | exact HB.out)) hb); have n2_ := mz (hbox); have n3_ := mz ((by rw [hg]; exact (below_size (by repeat (first | (with_reducible first | exact HB.out | apply below_alloc | apply pw_below_drewN | apply below_drew1 | refine below_set ?_ GE101.out) | exact HB.out))) : w.heap.size ≤ gb102)); have n4_ := mz ((by rw [hg]; exact (below_size (by repeat (first | (with_reducible first | exact HB.out | apply below_alloc | apply pw_below_drewN | apply below_drew1 | refine below_set ?_ GE101.out) | exact HB.out))) : w.heap.size ≤ gb102)); have n5_ := mz ((by rw [hg]; exact Nat.ne_of_lt (blk_lt (g := gb101) (o := .cells #[.int .i64 a0_0, .int .i64 a0_1, .int .i64 a0_2, .int .i64 a0_3, .string a0_4, .bool a0_5] 50 (0, 0)) (by (with_reducible repeat (first | refine blk_drewN ?_ _ | refine blk_drew ?_ | refine blk_alloc ?_ _)); exact BK101.out)) : gb101 ≠ gb102)); have n6_ := mz ((by rw [hg]; exact Nat.ne_of_gt (blk_lt (g := gb101) (o := .cells #[.int .i64 a0_0, .int .i64 a0_1, .int .i64 a0_2, .int .i64 a0_3, .string a0_4, .bool a0_5] 50 (0, 0)) (by (with_reducible repeat (first | refine blk_drewN ?_ _ | refine blk_drew ?_ | refine blk_alloc ?_ _)); exact BK101.out)) : gb102 ≠ gb101)); clear BK101; clear HB; have BK101 := n0_; have HB := n1_; have BK102 := n2_; have GW102 := n3_; have GE102 := n4_; have NB101_102 := n5_; have NB102_101 := n6_; clear n0_ n1_ n2_ n3_ n4_ n5_ n6_; clear hb hbox hg) | ((with_reducible refine gate_dst (N := 3) rfl ?_); refine box_event ?hg (N := 3) ?hd (cs := #[.int .i64 0, .int .i64 0, .int .i64 0, .int .i64 0, .string (⟨#[]⟩ : ByteArray), .bool false]) (t := 41) ?hr ?_; (case hd => rfl); (case hg => rfl); (case hr => first | (go_simp; done) | (go_simp; rfl)); intro gb103 hg w4 hbox hb; have n0_ := mz (blk_below (g := gb101) (o := .cells #[.int .i64 a0_0, .int .i64 a0_1, .int .i64 a0_2, .int .i64 a0_3, .string a0_4, .bool a0_5] 50 (0, 0)) (by (with_reducible repeat (first | refine blk_drewN ?_ _ | refine blk_drew ?_ | refine blk_alloc ?_ _)); exact BK101.out) hb); have n1_ := mz (blk_below (g := gb102) (o := .cells #[.int .i64 0, .int .i64 0, .int .i64 0, .int .i64 0, .string (⟨#[]⟩ : ByteArray), .bool false] 41 (0, 0)) (by (with_reducible repeat (first | refine blk_drewN ?_ _ | refine blk_drew ?_ | refine blk_alloc ?_ _)); exact BK102.out) hb); have n2_ := mz (below_step (by repeat (first | (with_reducible first | exact HB.out | apply below_alloc | apply pw_below_drewN | apply below_drew1 | refine below_set ?_ GE101.out | refine below_set ?_ GE102.out) | exact HB.out)) hb); have n3_ := mz (hbox); have n4_ := mz ((by rw [hg]; exact (below_size (by repeat (first | (with_reducible first | exact HB.out | apply below_alloc | apply pw_below_drewN | apply below_drew1 | refine below_set ?_ GE101.out | refine below_set ?_ GE102.out) | exact HB.out))) : w.heap.size ≤ gb103)); have n5_ := mz ((by rw [hg]; exact (below_size (by repeat (first | (with_reducible first | exact HB.out | apply below_alloc | apply pw_below_drewN | apply below_drew1 | refine below_set ?_ GE101.out | refine below_set ?_ GE102.out) | exact HB.out))) : w.heap.size ≤ gb103)); have n6_ := mz ((by rw [hg]; exact Nat.ne_of_lt (blk_lt (g := gb101) (o := .cells #[.int .i64 a0_0, .int .i64 a0_1, .int .i64 a0_2, .int .i64 a0_3, .string a0_4, .bool a0_5] 50 (0, 0)) (by (with_reducible repeat (first | refine blk_drewN ?_ _ | refine blk_drew ?_ | refine blk_alloc ?_ _)); exact BK101.out)) : gb101 ≠ gb103)); have n7_ := mz ((by rw [hg]; exact Nat.ne_of_gt (blk_lt (g := gb101) (o := .cells #[.int .i64 a0_0, .int .i64 a0_1, .int .i64 a0_2, .int .i64 a0_3, .string a0_4, .bool a0_5] 50 (0, 0)) (by (with_reducible repeat (first | refine blk_drewN ?_ _ | refine blk_drew ?_ | refine blk_alloc ?_ _)); exact BK101.out)) : gb103 ≠ gb101)); have n8_ := mz ((by rw [hg]; exact Nat.ne_of_lt (blk_lt (g := gb102) (o := .cells #[.int .i64 0, .int .i64 0, .int .i64 0, .int .i64 0, .string (⟨#[]⟩ : ByteArray), .bool false] 41 (0, 0)) (by (with_reducible repeat (first | refine blk_drewN ?_ _ | refine blk_drew ?_ | refine blk_alloc ?_ _)); exact BK102.out)) : gb102 ≠ gb103)); have n9_ := mz ((by rw [hg]; exact Nat.ne_of_gt (blk_lt (g := gb102) (o := .cells #[.int .i64 0, .int .i64 0, .int .i64 0, .int .i64 0, .string (⟨#[]⟩ : ByteArray), .bool false] 41 (0, 0)) (by (with_reducible repeat (first | refine blk_drewN ?_ _ | refine blk_drew ?_ | refine blk_alloc ?_ _)); exact BK102.out)) : gb103 ≠ gb102)); clear BK101; clear BK102; clear HB; have BK101 := n0_; have BK102 := n1_; have HB := n2_; have BK103 := n3_; have GW103 := n4_; have GE103 := n5_; have NB101_103 := n6_; have NB103_101 := n7_; have NB102_103 := n8_; have NB103_102 := n9_; clear n0_ n1_ n2_ n3_ n4_ n5_ n6_ n7_ n8_ n9_; clear hb hbox hg; have hnb5 := NB101_102.out; have hnc5 := NB102_101.out; have hnb6 := NB101_103.out; have hnc6 := NB103_101.out; have hcz7_0 : w4.cell? ⟨gb101, 0, none⟩ = some (.int .i64 a0_0) := (blk_cell BK101.out 0).trans rfl; have hcz7_1 : w4.cell? ⟨gb101, 1, none⟩ = some (.int .i64 a0_1) := (blk_cell BK101.out 1).trans rfl; have hcz7_2 : w4.cell? ⟨gb101, 2, none⟩ = some (.int .i64 a0_2) := (blk_cell BK101.out 2).trans rfl; have hcz7_3 : w4.cell? ⟨gb101, 3, none⟩ = some (.int .i64 a0_3) := (blk_cell BK101.out 3).trans rfl; have hcz7_4 : w4.cell? ⟨gb101, 4, none⟩ = some (.string a0_4) := (blk_cell BK101.out 4).trans rfl; have hcz7_5 : w4.cell? ⟨gb101, 5, none⟩ = some (.bool a0_5) := (blk_cell BK101.out 5).trans rfl; have hfz7_0 := blk_frozen BK101.out 0; have hfz7_1 := blk_frozen BK101.out 1; have hfz7_2 := blk_frozen BK101.out 2; have hfz7_3 := blk_frozen BK101.out 3; have hfz7_4 := blk_frozen BK101.out 4; have hfz7_5 := blk_frozen BK101.out 5; have hnb8 := NB103_102.out; have hnc8 := NB102_103.out; have hcz9_0 : w4.cell? ⟨gb103, 0, none⟩ = some (.int .i64 0) := (blk_cell BK103.out 0).trans rfl; have hcz9_1 : w4.cell? ⟨gb103, 1, none⟩ = some (.int .i64 0) := (blk_cell BK103.out 1).trans rfl; have hcz9_2 : w4.cell? ⟨gb103, 2, none⟩ = some (.int .i64 0) := (blk_cell BK103.out 2).trans rfl; have hcz9_3 : w4.cell? ⟨gb103, 3, none⟩ = some (.int .i64 0) := (blk_cell BK103.out 3).trans rfl; have hcz9_4 : w4.cell? ⟨gb103, 4, none⟩ = some (.string (⟨#[]⟩ : ByteArray)) := (blk_cell BK103.out 4).trans rfl; have hcz9_5 : w4.cell? ⟨gb103, 5, none⟩ = some (.bool false) := (blk_cell BK103.out 5).trans rfl; have hfz9_0 := blk_frozen BK103.out 0; have hfz9_1 := blk_frozen BK103.out 1; have hfz9_2 := blk_frozen BK103.out 2; have hfz9_3 := blk_frozen BK103.out 3; have hfz9_4 := blk_frozen BK103.out 4; have hfz9_5 := blk_frozen BK103.out 5; have hcz10_0 : w4.cell? ⟨gb102, 0, none⟩ = some (.int .i64 0) := (blk_cell BK102.out 0).trans rfl; have hcz10_1 : w4.cell? ⟨gb102, 1, none⟩ = some (.int .i64 0) := (blk_cell BK102.out 1).trans rfl; have hcz10_2 : w4.cell? ⟨gb102, 2, none⟩ = some (.int .i64 0) := (blk_cell BK102.out 2).trans rfl; have hcz10_3 : w4.cell? ⟨gb102, 3, none⟩ = some (.int .i64 0) := (blk_cell BK102.out 3).trans rfl; have hcz10_4 : w4.cell? ⟨gb102, 4, none⟩ = some (.string (⟨#[]⟩ : ByteArray)) := (blk_cell BK102.out 4).trans rfl; have hcz10_5 : w4.cell? ⟨gb102, 5, none⟩ = some (.bool false) := (blk_cell BK102.out 5).trans rfl; have hfz10_0 := blk_frozen BK102.out 0; have hfz10_1 := blk_frozen BK102.out 1; have hfz10_2 := blk_frozen BK102.out 2; have hfz10_3 := blk_frozen BK102.out 3; have hfz10_4 := blk_frozen BK102.out 4; have hfz10_5 := blk_frozen BK102.out 5))
  refine bodyPost_ret (results_cell_row rfl _ _ gb102 41 #[.int .i64 a0_0, .int .i64 a0_1, .int .i64 a0_2, .int .i64 a0_3, .string a0_4, .bool a0_5] (0, 0) _ rfl (by (with_reducible repeat (first | refine blk_drewN ?_ _ | refine blk_drew ?_ | refine blk_alloc ?_ _)); refine blk_put (cs := #[.int .i64 a0_0, .int .i64 a0_1, .int .i64 a0_2, .int .i64 a0_3, .string a0_4, .bool false]) ?_ 5 _ rfl; (with_reducible repeat (first | refine blk_drewN ?_ _ | refine blk_drew ?_ | refine blk_alloc ?_ _)); refine blk_put (cs := #[.int .i64 a0_0, .int .i64 a0_1, .int .i64 a0_2, .int .i64 a0_3, .string (⟨#[]⟩ : ByteArray), .bool false]) ?_ 4 _ rfl; (with_reducible repeat (first | refine blk_drewN ?_ _ | refine blk_drew ?_ | refine blk_alloc ?_ _)); refine blk_put (cs := #[.int .i64 a0_0, .int .i64 a0_1, .int .i64 a0_2, .int .i64 0, .string (⟨#[]⟩ : ByteArray), .bool false]) ?_ 3 _ rfl; (with_reducible repeat (first | refine blk_drewN ?_ _ | refine blk_drew ?_ | refine blk_alloc ?_ _)); refine blk_put (cs := #[.int .i64 a0_0, .int .i64 a0_1, .int .i64 0, .int .i64 0, .string (⟨#[]⟩ : ByteArray), .bool false]) ?_ 2 _ rfl; (with_reducible repeat (first | refine blk_drewN ?_ _ | refine blk_drew ?_ | refine blk_alloc ?_ _)); refine blk_put (cs := #[.int .i64 a0_0, .int .i64 0, .int .i64 0, .int .i64 0, .string (⟨#[]⟩ : ByteArray), .bool false]) ?_ 1 _ rfl; (with_reducible repeat (first | refine blk_drewN ?_ _ | refine blk_drew ?_ | refine blk_alloc ?_ _)); refine blk_put (cs := #[.int .i64 0, .int .i64 0, .int .i64 0, .int .i64 0, .string (⟨#[]⟩ : ByteArray), .bool false]) ?_ 0 _ rfl; (with_reducible repeat (first | refine blk_drewN ?_ _ | refine blk_drew ?_ | refine blk_alloc ?_ _)); refine blk_far ?_ NB102_103.out _; (with_reducible repeat (first | refine blk_drewN ?_ _ | refine blk_drew ?_ | refine blk_alloc ?_ _)); refine blk_far ?_ NB102_103.out _; (with_reducible repeat (first | refine blk_drewN ?_ _ | refine blk_drew ?_ | refine blk_alloc ?_ _)); refine blk_far ?_ NB102_103.out _; (with_reducible repeat (first | refine blk_drewN ?_ _ | refine blk_drew ?_ | refine blk_alloc ?_ _)); refine blk_far ?_ NB102_103.out _; (with_reducible repeat (first | refine blk_drewN ?_ _ | refine blk_drew ?_ | refine blk_alloc ?_ _)); refine blk_far ?_ NB102_103.out _; (with_reducible repeat (first | refine blk_drewN ?_ _ | refine blk_drew ?_ | refine blk_alloc ?_ _)); refine blk_far ?_ NB102_103.out _; (with_reducible repeat (first | refine blk_drewN ?_ _ | refine blk_drew ?_ | refine blk_alloc ?_ _)); exact BK102.out) Try.underlying41 rfl (by kernel_rfl)) rfl ?_
  exact ⟨by first | rfl | (simp [errW_none, errW_some] <;> rfl) | (simp [*, errW_none, errW_some] <;> rfl), by repeat (first | (with_reducible first | exact HB.out | apply below_alloc | apply pw_below_drewN | apply below_drew1 | refine below_set ?_ GE101.out | refine below_set ?_ GE102.out | refine below_set ?_ GE103.out) | exact HB.out)⟩
end
section
attribute [local go_sem] max2_int min2_int max_two min_two max_three min_three max_four min_four
def laws_toAtomS.l0 : Nat → List (S50) → List (S41) → Int → Option ((List (S41)))
  | 0, _, _, _ => none
  | k + 1, x0, x3, x4 => if x4 < (x0.length : Int) then (if 0 ≤ x4 then ((laws_toAtom.f ((rd_T50 x0 x4).f0) ((rd_T50 x0 x4).f1) ((rd_T50 x0 x4).f2) ((rd_T50 x0 x4).f3) ((rd_T50 x0 x4).f4) ((rd_T50 x0 x4).f5)).bind fun bt105 => (if x4 < (x3.length : Int) then (laws_toAtomS.l0 k x0 (x3.set (x4 : Int).toNat (⟨bt105.1, bt105.2.1, bt105.2.2.1, bt105.2.2.2.1, bt105.2.2.2.2.1, bt105.2.2.2.2.2⟩ : S41)) (wrap64 (x4 + 1))) else (none))) else (none)) else (some x3)
def laws_toAtomS.f (k : Nat) (l0 : List (S50)) : Option ((List (S41))) := if 0 ≤ (l0.length : Int) then (if ((l0.length : Int) : Int).toNat ≤ 5026338869833 then (laws_toAtomS.l0 k l0 (List.replicate ((l0.length : Int) : Int).toNat z41) 0) else (none)) else (none)
set_option maxHeartbeats 8000000 in
set_option maxRecDepth 100000 in
theorem laws_toAtomS.calls (k : Nat) (A0 : Option Addr) (c0 : Nat) (l0 : List (S50)) (r : List (S41)) (w : World) (hr0 : Kd.C k50 w A0 l0.length l0) (hc0 : l0.length ≤ c0) (h : laws_toAtomS.f k l0 = some r) :
    Calls Try.prog 15 #[.slice A0 l0.length c0] w fun e w' => ∃ v0_ : Value, e = .returned (v0_) ∧ Kd.R k41 41 w' w.heap.size (fun _ => True) v0_ r ∧ Below w.heap.size w w' := by
  have hu50 := Try.underlying50
  have hu41 := Try.underlying41
  have HR0 := mz hr0
  have HC0 := mz hc0
  clear hr0 hc0
  have HB := mz (Below.refl w.heap.size w)
  have H : (if 0 ≤ (l0.length : Int) then (if ((l0.length : Int) : Int).toNat ≤ 5026338869833 then (laws_toAtomS.l0 k l0 (List.replicate ((l0.length : Int) : Int).toNat z41) 0) else (none)) else (none)) = some r := h
  clear h
  by_cases c2 : 0 ≤ (l0.length : Int)
  · rw [if_pos c2] at H
    have c2b0 := eq_true c2
    have c2b1 : decide (0 ≤ (l0.length : Int)) = true := decide_eq_true c2
    clear c2
    by_cases c3 : ((l0.length : Int) : Int).toNat ≤ 5026338869833
    · rw [if_pos c3] at H
      have c3b0 := eq_true c3
      have c3b1 : decide (((l0.length : Int) : Int).toNat ≤ 5026338869833) = true := decide_eq_true c3
      clear c3
      obtain ⟨y101, hy101⟩ : ∃ y_ : List (S41), y_ = (List.replicate ((l0.length : Int) : Int).toNat z41) := ⟨_, rfl⟩
      replace H : (laws_toAtomS.l0 k l0 y101 0) = some r := by first | (rw [hy101]; with_reducible exact H) | (have H2_ := (Option.bind_some _ _).symm.trans H; rw [hy101]; with_reducible exact H2_) | (have H2_ := (Option.bind_some _ _).symm.trans H; with_reducible exact H2_) | with_reducible exact H | (rw [hy101]; exact H) | exact H
      have Ny101 := mz hy101
      clear hy101
      have H' := mz H
      clear H
      go_enter Try.func15, Try.ntmps15
      go_wp2_with (first | ((with_reducible refine gate_dst (N := 7) rfl ?_); refine Kd.R_make k41 _ 41 rfl (N := 7) rfl 26 _ _ rfl (l0.length : Int) rfl rfl Try.underlying26 (.agg #[(.int .i64 0), (.int .i64 0), (.int .i64 0), (.int .i64 0), (.string ⟨#[]⟩), (.bool false)]) 56 info41 rfl (by decide) (by omega) z41 (ok := fun _ => True) (okp := fun _ => True) (k41_mkM _ _ _ z41 ) (fun _ hk => hk) trivial (of_decide_eq_true (by first | (with_reducible assumption) | assumption)) (Nat.le_trans (Nat.mul_le_mul_right _ (of_decide_eq_true (by first | (with_reducible assumption) | assumption) : (l0.length : Int).toNat ≤ 5026338869833)) (by omega)) (Below.refl _ _) (Nat.le_refl _) ?_; intro v102 w4 ho5 hb hg_ hnew_; clear hg_ hnew_; (first | rw [← Ny101.out] at ho5 | (simp only [Int.reduceToNat] at ho5; rw [← Ny101.out] at ho5)); have n0_ := mz (Kd.R_lower ho5 (below_size (by repeat (first | (with_reducible first | exact HB.out | apply below_alloc | apply pw_below_drewN | apply below_drew1) | exact HB.out)))); have n1_ := mz (below_step (by repeat (first | (with_reducible first | exact HB.out | apply below_alloc | apply pw_below_drewN | apply below_drew1) | exact HB.out)) hb); clear HB; have HO103 := n0_; have HB := n1_; clear n0_ n1_; clear hb ho5))
      go_loopg [4] k (fun kq v4 w' => ∃ (x3_1 : List (S41)) (x4_1 : Int), v4 = .int .i64 x4_1 ∧ Aside0 (laws_toAtomS.l0 kq l0 x3_1 x4_1 = some r) ∧ Aside0 (kq ≤ k) ∧ Aside0 (Kd.R k41 41 w' w.heap.size (fun _ => True) v102 x3_1) ∧ Aside0 (Below w.heap.size w w'))
      case atStart => exact ⟨(y101), (0), (by first | rfl | (simp; done) | (simp [*]; done)), H', ⟨Nat.le_refl _⟩, ⟨by (with_reducible repeat (first | apply Kd.R_alloc | apply Kd.R_drewN | apply Kd.R_drew)); exact HO103.out⟩, ⟨by repeat (first | (with_reducible first | exact HB.out | apply below_alloc | apply pw_below_drewN | apply below_drew1) | exact HB.out)⟩⟩
      case round =>
        clear H'
        try clear c1
        try clear c2
        try clear c2b0
        try clear c2b1
        try clear p2
        try clear c3
        try clear c3b0
        try clear c3b1
        obtain ⟨x3_1, x4_1, rfl, HA, HK1, HO_3, HB⟩ := hrel
        cases gk with
        | zero => exact absurd HA.out (by simp [laws_toAtomS.l0])
        | succ k1 =>
          have H := HA.out
          clear HA
          simp only [laws_toAtomS.l0] at H
          by_cases c6 : x4_1 < (l0.length : Int)
          · rw [if_pos c6] at H
            have c6b0 : decide (x4_1 < (l0.length : Int)) = true := decide_eq_true c6
            clear c6
            by_cases c7 : 0 ≤ x4_1
            · rw [if_pos c7] at H
              have c7b0 : decide (0 ≤ x4_1) = true := decide_eq_true c7
              clear c7
              replace H := be0_ H
              obtain ⟨⟨t105, t106, t107, t108, t109, t110⟩, A80, H⟩ := H
              replace H : (if x4_1 < (x3_1.length : Int) then (laws_toAtomS.l0 k1 l0 (x3_1.set (x4_1 : Int).toNat (⟨t105, t106, t107, t108, t109, t110⟩ : S41)) (wrap64 (x4_1 + 1))) else (none)) = some r := H
              have A8 := mz A80
              clear A80
              by_cases c9 : x4_1 < (x3_1.length : Int)
              · rw [if_pos c9] at H
                have c9b0 : decide (x4_1 < (x3_1.length : Int)) = true := decide_eq_true c9
                clear c9
                obtain ⟨y111, hy111⟩ : ∃ y_ : List (S41), y_ = (x3_1.set (x4_1 : Int).toNat (⟨t105, t106, t107, t108, t109, t110⟩ : S41)) := ⟨_, rfl⟩
                replace H : (laws_toAtomS.l0 k1 l0 y111 (wrap64 (x4_1 + 1))) = some r := by first | (rw [hy111]; with_reducible exact H) | (have H2_ := (Option.bind_some _ _).symm.trans H; rw [hy111]; with_reducible exact H2_) | (have H2_ := (Option.bind_some _ _).symm.trans H; with_reducible exact H2_) | with_reducible exact H | (rw [hy111]; exact H) | exact H
                have Ny111 := mz hy111
                clear hy111
                have H' := mz H
                clear H
                have p104 : 0 ≤ (x4_1 : Int) := of_decide_eq_true (by first | (with_reducible assumption) | assumption)
                have q104 : x4_1 < (l0.length : Int) := of_decide_eq_true (by first | (with_reducible assumption) | assumption)
                obtain ⟨ad104, e104, hx104_0, hx104_1, hx104_2, hx104_3, hx104_4, hx104_5⟩ := at_T50 HR0.out x4_1 p104 q104
                cases e104
                replace hx104_0 := bc_ HB.out hx104_0
                replace hx104_1 := bc_ HB.out hx104_1
                replace hx104_2 := bc_ HB.out hx104_2
                replace hx104_3 := bc_ HB.out hx104_3
                replace hx104_4 := bc_ HB.out hx104_4
                replace hx104_5 := bc_ HB.out hx104_5
                replace p104 := eq_true p104
                replace q104 := eq_true q104
                go_wp2_with (first | ((with_reducible refine gate_callee (f := 29) rfl ?_); refine goesL_ (some 20) rfl rfl Try.func29 (by kernel_rfl) rfl #[.agg #[.int .i64 ((rd_T50 l0 x4_1).f0), .int .i64 ((rd_T50 l0 x4_1).f1), .int .i64 ((rd_T50 l0 x4_1).f2), .int .i64 ((rd_T50 l0 x4_1).f3), .string ((rd_T50 l0 x4_1).f4), .bool ((rd_T50 l0 x4_1).f5)]] rfl (by (try simp only [List.map_toArray, List.map_cons, List.map_nil]); first | done | rfl | (simp only [List.length_drop, List.length_take]; rfl)) ?_; (with_reducible refine (laws_toAtom.calls ((rd_T50 l0 x4_1).f0) ((rd_T50 l0 x4_1).f1) ((rd_T50 l0 x4_1).f2) ((rd_T50 l0 x4_1).f3) ((rd_T50 l0 x4_1).f4) ((rd_T50 l0 x4_1).f5) t105 t106 t107 t108 t109 t110 _ A8.out).mono ?_); rintro e w11 ⟨rfl, hb⟩; refine ⟨_, rfl, ?_⟩; have n0_ := mz (Kd.R_below (by (with_reducible repeat (first | apply Kd.R_alloc | apply Kd.R_drewN | apply Kd.R_drew)); exact HO_3.out) hb); have n1_ := mz (below_step (by repeat (first | (with_reducible first | exact HB.out | apply below_alloc | apply pw_below_drewN | apply below_drew1) | exact HB.out)) hb); clear HO_3; clear HB; have HO_3 := n0_; have HB := n1_; clear n0_ n1_; (try clear hb); (try clear hb2); (try clear hk); (try clear hi); have p10 : 0 ≤ (x4_1 : Int) := of_decide_eq_true (by first | (with_reducible assumption) | assumption); have q10 : (x4_1 : Int) < ((x3_1.length : Int) : Int) := of_decide_eq_true (by first | (with_reducible assumption) | assumption); obtain ⟨go10, co10, eo10, gb10, gl10, cl10, HG10⟩ := Kd.R_form HO_3.out (by omega); (first | cases eo10 | (injection eo10 with ea_ en_ ec_; (first | subst ea_ | (injection ea_ with ea_; subst ea_)); subst ec_; clear en_)); have GB10 := mz gb10; have GG10 := mz HG10; clear gb10 gl10 HG10; obtain ⟨ce10, hcl10, hM10, hcc10, hfr10⟩ := Kd.R_elem HO_3.out z41 (x4_1 : Int) p10 q10; obtain rfl := k41_openM hM10; have hx10_0 : w11.cell? ⟨go10, (x4_1 : Int).toNat * 6, none⟩ = some (.int .i64 ((rd_T41 x3_1 x4_1).f0)) := hcc10 0 _ rfl; have hx10_1 : w11.cell? ⟨go10, (x4_1 : Int).toNat * 6 + 1, none⟩ = some (.int .i64 ((rd_T41 x3_1 x4_1).f1)) := hcc10 1 _ rfl; have hx10_2 : w11.cell? ⟨go10, (x4_1 : Int).toNat * 6 + 2, none⟩ = some (.int .i64 ((rd_T41 x3_1 x4_1).f2)) := hcc10 2 _ rfl; have hx10_3 : w11.cell? ⟨go10, (x4_1 : Int).toNat * 6 + 3, none⟩ = some (.int .i64 ((rd_T41 x3_1 x4_1).f3)) := hcc10 3 _ rfl; have hx10_4 : w11.cell? ⟨go10, (x4_1 : Int).toNat * 6 + 4, none⟩ = some (.string ((rd_T41 x3_1 x4_1).f4)) := hcc10 4 _ rfl; have hx10_5 : w11.cell? ⟨go10, (x4_1 : Int).toNat * 6 + 5, none⟩ = some (.bool ((rd_T41 x3_1 x4_1).f5)) := hcc10 5 _ rfl; have hf10_0 : w11.frozen? ⟨go10, (x4_1 : Int).toNat * 6, none⟩ = false := hfr10 0; have hf10_1 : w11.frozen? ⟨go10, (x4_1 : Int).toNat * 6 + 1, none⟩ = false := hfr10 1; have hf10_2 : w11.frozen? ⟨go10, (x4_1 : Int).toNat * 6 + 2, none⟩ = false := hfr10 2; have hf10_3 : w11.frozen? ⟨go10, (x4_1 : Int).toNat * 6 + 3, none⟩ = false := hfr10 3; have hf10_4 : w11.frozen? ⟨go10, (x4_1 : Int).toNat * 6 + 4, none⟩ = false := hfr10 4; have hf10_5 : w11.frozen? ⟨go10, (x4_1 : Int).toNat * 6 + 5, none⟩ = false := hfr10 5; clear hcl10 hcc10 hfr10 hM10; replace p10 := eq_true p10; replace q10 := eq_true q10; have HX12 := mz (show Kd.R k41 41 w11 w.heap.size (fun _ => True) (.slice (some ⟨go10, 0, none⟩) x3_1.length co10) x3_1 from (by (with_reducible repeat (first | apply Kd.R_alloc | apply Kd.R_drewN | apply Kd.R_drew)); exact HO_3.out)); obtain ⟨ce12, hcl12, hM12, hcc12, hfr12⟩ := Kd.R_elem HX12.out z41 (x4_1 : Int) (of_decide_eq_true (by first | (with_reducible assumption) | assumption)) (by have h_ : (x4_1 : Int) < ((x3_1.length : Int) : Int) := of_decide_eq_true (by first | (with_reducible assumption) | assumption); first | exact h_ | (have e_ := (Kd.R_reads' HO_3.out).1; omega) | simpa using h_); obtain rfl := k41_openM hM12; have HP12 := Kd.R_seg HX12.out (x4_1 : Int) (of_decide_eq_true (by first | (with_reducible assumption) | assumption)) (by have h_ : (x4_1 : Int) < ((x3_1.length : Int) : Int) := of_decide_eq_true (by first | (with_reducible assumption) | assumption); first | exact h_ | (have e_ := (Kd.R_reads' HO_3.out).1; omega) | simpa using h_) (seg := [.int .i64 t105, .int .i64 t106, .int .i64 t107, .int .i64 t108, .string t109, .bool t110]) (j := 0) hcl12 hcc12 (show 6 ≤ 6 from by decide) (x' := (⟨t105, t106, t107, t108, t109, t110⟩ : S41)) (k41_mkM _ _ _ (⟨t105, t106, t107, t108, t109, t110⟩ : S41) ) (fun _ hk => hk); have hx12_0 := hcc12 0 _ rfl; (try simp only [show (k41).sz = 6 from rfl, Nat.mul_one, Nat.add_zero] at hx12_0); have hf12_0 := hfr12 0; (try simp only [show (k41).sz = 6 from rfl, Nat.mul_one, Nat.add_zero] at hf12_0); have hx12_1 := hcc12 1 _ rfl; (try simp only [show (k41).sz = 6 from rfl, Nat.mul_one, Nat.add_zero] at hx12_1); have hf12_1 := hfr12 1; (try simp only [show (k41).sz = 6 from rfl, Nat.mul_one, Nat.add_zero] at hf12_1); have hx12_2 := hcc12 2 _ rfl; (try simp only [show (k41).sz = 6 from rfl, Nat.mul_one, Nat.add_zero] at hx12_2); have hf12_2 := hfr12 2; (try simp only [show (k41).sz = 6 from rfl, Nat.mul_one, Nat.add_zero] at hf12_2); have hx12_3 := hcc12 3 _ rfl; (try simp only [show (k41).sz = 6 from rfl, Nat.mul_one, Nat.add_zero] at hx12_3); have hf12_3 := hfr12 3; (try simp only [show (k41).sz = 6 from rfl, Nat.mul_one, Nat.add_zero] at hf12_3); have hx12_4 := hcc12 4 _ rfl; (try simp only [show (k41).sz = 6 from rfl, Nat.mul_one, Nat.add_zero] at hx12_4); have hf12_4 := hfr12 4; (try simp only [show (k41).sz = 6 from rfl, Nat.mul_one, Nat.add_zero] at hf12_4); have hx12_5 := hcc12 5 _ rfl; (try simp only [show (k41).sz = 6 from rfl, Nat.mul_one, Nat.add_zero] at hx12_5); have hf12_5 := hfr12 5; (try simp only [show (k41).sz = 6 from rfl, Nat.mul_one, Nat.add_zero] at hf12_5); clear hcl12 hcc12 hfr12 hM12) | ((with_reducible refine gate_store (t := 41) (p := 21) rfl ?_); refine store_event (t := 41) (p := 21) (v := ?vo_w13) (w1 := ((((((w11.setCell ⟨go10, (x4_1 : Int).toNat * 6, none⟩ (.int .i64 t105)).setCell ⟨go10, (x4_1 : Int).toNat * 6 + 1, none⟩ (.int .i64 t106)).setCell ⟨go10, (x4_1 : Int).toNat * 6 + 2, none⟩ (.int .i64 t107)).setCell ⟨go10, (x4_1 : Int).toNat * 6 + 3, none⟩ (.int .i64 t108)).setCell ⟨go10, (x4_1 : Int).toNat * 6 + 4, none⟩ (.string t109)).setCell ⟨go10, (x4_1 : Int).toNat * 6 + 5, none⟩ (.bool t110))) ?hg ?ho ?hn ?hr ?_; (case ho => rfl); (case hg => rfl); (case hn => rfl); (case hr => first | (go_simp; done) | (go_simp; rfl)); intro w13 hw; have hg : w11.grownBy w13 (some go10) := (by rw [hw]; exact HP12.2); have hp_ : Kd.R k41 41 w13 w.heap.size (fun _ => True) (.slice (some ⟨go10, 0, none⟩) x3_1.length co10) y111 := (by rw [hw, Ny111.out]; exact HP12.1); clear HP12; have n0_ := mz (hp_); have n1_ := mz ((by rw [hw]; exact below_set (below_set (below_set (below_set (below_set (below_set (HB.out) GB10.out) GB10.out) GB10.out) GB10.out) GB10.out) GB10.out : Below w.heap.size w w13)); clear HO_3; clear HB; have HO_3 := n0_; have HB := n1_; clear n0_ n1_; clear hg hw hp_))
                go_roundg k1
                case measure => have := HK1.out; omega
                case rel => exact ⟨(y111), (wrap64 (x4_1 + 1)), (by first | rfl | (simp; done) | (simp [*]; done)), H', ⟨by have := HK1.out; omega⟩, ⟨by (with_reducible repeat (first | apply Kd.R_alloc | apply Kd.R_drewN | apply Kd.R_drew)); exact HO_3.out⟩, ⟨by repeat (first | (with_reducible first | exact HB.out | apply below_alloc | apply pw_below_drewN | apply below_drew1) | exact HB.out)⟩⟩
              · rw [if_neg c9] at H
                exact absurd H (by simp)
            · rw [if_neg c7] at H
              exact absurd H (by simp)
          · rw [if_neg c6] at H
            have c6b0 : decide (x4_1 < (l0.length : Int)) = false := decide_eq_false c6
            clear c6
            obtain rfl := Option.some.inj H
            go_wp2
            go_ret
            exact ⟨_, by first | rfl | (simp [errW_none, errW_some] <;> rfl) | (simp [*, errW_none, errW_some] <;> rfl), by (with_reducible repeat (first | apply Kd.R_alloc | apply Kd.R_drewN | apply Kd.R_drew)); exact HO_3.out, by repeat (first | (with_reducible first | exact HB.out | apply below_alloc | apply pw_below_drewN | apply below_drew1) | exact HB.out)⟩
    · rw [if_neg c3] at H
      exact absurd H (by simp)
  · rw [if_neg c2] at H
    exact absurd H (by simp)
end
section
attribute [local go_sem] max2_int min2_int max_two min_two max_three min_three max_four min_four
def laws_toSeq.f (k : Nat) (l0_0 : List (S50)) : Option ((List (S41))) := (laws_toAtomS.f k l0_0).bind fun t104 => (some t104)
set_option maxHeartbeats 8000000 in
set_option maxRecDepth 100000 in
theorem laws_toSeq.calls (k : Nat) (A0_0 : Option Addr) (c0_0 : Nat) (l0_0 : List (S50)) (r : List (S41)) (w : World) (hr0_0 : Kd.C k50 w A0_0 l0_0.length l0_0) (hc0_0 : l0_0.length ≤ c0_0) (h : laws_toSeq.f k l0_0 = some r) :
    Calls Try.prog 6 #[.agg #[.slice A0_0 l0_0.length c0_0]] w fun e w' => ∃ v0_ : Value, e = .returned (.agg #[v0_]) ∧ Kd.R k41 41 w' w.heap.size (fun _ => True) v0_ r ∧ Below w.heap.size w w' := by
  have hu24 := Try.underlying24
  have hu28 := Try.underlying28
  have HR0_0 := mz hr0_0
  have HC0_0 := mz hc0_0
  clear hr0_0 hc0_0
  have HB := mz (Below.refl w.heap.size w)
  have H : ((laws_toAtomS.f k l0_0).bind fun t104 => (some t104)) = some r := h
  clear h
  replace H := be0_ H
  obtain ⟨t104, A20, H⟩ := H
  replace H : (some t104) = some r := H
  have A2 := mz A20
  clear A20
  obtain rfl := Option.some.inj H
  go_enter Try.func6, Try.ntmps6
  go_wp2_with (first | ((with_reducible refine gate_dst (N := 1) rfl ?_); refine box_event ?hg (N := 1) ?hd (cs := #[.slice A0_0 l0_0.length c0_0]) (t := 24) ?hr ?_; (case hd => rfl); (case hg => rfl); (case hr => first | (go_simp; done) | (go_simp; rfl)); intro gb101 hg w3 hbox hb; have n0_ := mz (below_step (by repeat (first | (with_reducible first | exact HB.out | apply below_alloc | apply pw_below_drewN | apply below_drew1) | exact HB.out)) hb); have n1_ := mz (hbox); have n2_ := mz ((by rw [hg]; exact (below_size (by repeat (first | (with_reducible first | exact HB.out | apply below_alloc | apply pw_below_drewN | apply below_drew1) | exact HB.out))) : w.heap.size ≤ gb101)); have n3_ := mz ((by rw [hg]; exact (below_size (by repeat (first | (with_reducible first | exact HB.out | apply below_alloc | apply pw_below_drewN | apply below_drew1) | exact HB.out))) : w.heap.size ≤ gb101)); clear HB; have HB := n0_; have BK101 := n1_; have GW101 := n2_; have GE101 := n3_; clear n0_ n1_ n2_ n3_; clear hb hbox hg) | ((with_reducible refine gate_dst (N := 2) rfl ?_); refine box_event ?hg (N := 2) ?hd (cs := #[.slice none 0 0]) (t := 28) ?hr ?_; (case hd => rfl); (case hg => rfl); (case hr => first | (go_simp; done) | (go_simp; rfl)); intro gb102 hg w4 hbox hb; have n0_ := mz (blk_below (g := gb101) (o := .cells #[.slice A0_0 l0_0.length c0_0] 24 (0, 0)) (by (with_reducible repeat (first | refine blk_drewN ?_ _ | refine blk_drew ?_ | refine blk_alloc ?_ _)); exact BK101.out) hb); have n1_ := mz (below_step (by repeat (first | (with_reducible first | exact HB.out | apply below_alloc | apply pw_below_drewN | apply below_drew1 | refine below_set ?_ GE101.out) | exact HB.out)) hb); have n2_ := mz (hbox); have n3_ := mz ((by rw [hg]; exact (below_size (by repeat (first | (with_reducible first | exact HB.out | apply below_alloc | apply pw_below_drewN | apply below_drew1 | refine below_set ?_ GE101.out) | exact HB.out))) : w.heap.size ≤ gb102)); have n4_ := mz ((by rw [hg]; exact (below_size (by repeat (first | (with_reducible first | exact HB.out | apply below_alloc | apply pw_below_drewN | apply below_drew1 | refine below_set ?_ GE101.out) | exact HB.out))) : w.heap.size ≤ gb102)); have n5_ := mz ((by rw [hg]; exact Nat.ne_of_lt (blk_lt (g := gb101) (o := .cells #[.slice A0_0 l0_0.length c0_0] 24 (0, 0)) (by (with_reducible repeat (first | refine blk_drewN ?_ _ | refine blk_drew ?_ | refine blk_alloc ?_ _)); exact BK101.out)) : gb101 ≠ gb102)); have n6_ := mz ((by rw [hg]; exact Nat.ne_of_gt (blk_lt (g := gb101) (o := .cells #[.slice A0_0 l0_0.length c0_0] 24 (0, 0)) (by (with_reducible repeat (first | refine blk_drewN ?_ _ | refine blk_drew ?_ | refine blk_alloc ?_ _)); exact BK101.out)) : gb102 ≠ gb101)); clear BK101; clear HB; have BK101 := n0_; have HB := n1_; have BK102 := n2_; have GW102 := n3_; have GE102 := n4_; have NB101_102 := n5_; have NB102_101 := n6_; clear n0_ n1_ n2_ n3_ n4_ n5_ n6_; clear hb hbox hg) | ((with_reducible refine gate_dst (N := 3) rfl ?_); refine box_event ?hg (N := 3) ?hd (cs := #[.slice none 0 0]) (t := 28) ?hr ?_; (case hd => rfl); (case hg => rfl); (case hr => first | (go_simp; done) | (go_simp; rfl)); intro gb103 hg w5 hbox hb; have n0_ := mz (blk_below (g := gb101) (o := .cells #[.slice A0_0 l0_0.length c0_0] 24 (0, 0)) (by (with_reducible repeat (first | refine blk_drewN ?_ _ | refine blk_drew ?_ | refine blk_alloc ?_ _)); exact BK101.out) hb); have n1_ := mz (blk_below (g := gb102) (o := .cells #[.slice none 0 0] 28 (0, 0)) (by (with_reducible repeat (first | refine blk_drewN ?_ _ | refine blk_drew ?_ | refine blk_alloc ?_ _)); exact BK102.out) hb); have n2_ := mz (below_step (by repeat (first | (with_reducible first | exact HB.out | apply below_alloc | apply pw_below_drewN | apply below_drew1 | refine below_set ?_ GE101.out | refine below_set ?_ GE102.out) | exact HB.out)) hb); have n3_ := mz (hbox); have n4_ := mz ((by rw [hg]; exact (below_size (by repeat (first | (with_reducible first | exact HB.out | apply below_alloc | apply pw_below_drewN | apply below_drew1 | refine below_set ?_ GE101.out | refine below_set ?_ GE102.out) | exact HB.out))) : w.heap.size ≤ gb103)); have n5_ := mz ((by rw [hg]; exact (below_size (by repeat (first | (with_reducible first | exact HB.out | apply below_alloc | apply pw_below_drewN | apply below_drew1 | refine below_set ?_ GE101.out | refine below_set ?_ GE102.out) | exact HB.out))) : w.heap.size ≤ gb103)); have n6_ := mz ((by rw [hg]; exact Nat.ne_of_lt (blk_lt (g := gb101) (o := .cells #[.slice A0_0 l0_0.length c0_0] 24 (0, 0)) (by (with_reducible repeat (first | refine blk_drewN ?_ _ | refine blk_drew ?_ | refine blk_alloc ?_ _)); exact BK101.out)) : gb101 ≠ gb103)); have n7_ := mz ((by rw [hg]; exact Nat.ne_of_gt (blk_lt (g := gb101) (o := .cells #[.slice A0_0 l0_0.length c0_0] 24 (0, 0)) (by (with_reducible repeat (first | refine blk_drewN ?_ _ | refine blk_drew ?_ | refine blk_alloc ?_ _)); exact BK101.out)) : gb103 ≠ gb101)); have n8_ := mz ((by rw [hg]; exact Nat.ne_of_lt (blk_lt (g := gb102) (o := .cells #[.slice none 0 0] 28 (0, 0)) (by (with_reducible repeat (first | refine blk_drewN ?_ _ | refine blk_drew ?_ | refine blk_alloc ?_ _)); exact BK102.out)) : gb102 ≠ gb103)); have n9_ := mz ((by rw [hg]; exact Nat.ne_of_gt (blk_lt (g := gb102) (o := .cells #[.slice none 0 0] 28 (0, 0)) (by (with_reducible repeat (first | refine blk_drewN ?_ _ | refine blk_drew ?_ | refine blk_alloc ?_ _)); exact BK102.out)) : gb103 ≠ gb102)); clear BK101; clear BK102; clear HB; have BK101 := n0_; have BK102 := n1_; have HB := n2_; have BK103 := n3_; have GW103 := n4_; have GE103 := n5_; have NB101_103 := n6_; have NB103_101 := n7_; have NB102_103 := n8_; have NB103_102 := n9_; clear n0_ n1_ n2_ n3_ n4_ n5_ n6_ n7_ n8_ n9_; clear hb hbox hg; have hnb6 := NB101_102.out; have hnc6 := NB102_101.out; have hnb7 := NB101_103.out; have hnc7 := NB103_101.out; have hcz8_0 : w5.cell? ⟨gb101, 0, none⟩ = some (.slice A0_0 l0_0.length c0_0) := (blk_cell BK101.out 0).trans rfl; have hfz8_0 := blk_frozen BK101.out 0) | ((with_reducible refine gate_callee (f := 15) rfl ?_); refine goesL_ (some 6) rfl rfl Try.func15 (by kernel_rfl) rfl #[.slice A0_0 l0_0.length c0_0] rfl (by (try simp only [List.map_toArray, List.map_cons, List.map_nil]); first | done | rfl | (simp only [List.length_drop, List.length_take]; rfl)) ?_; (with_reducible refine (laws_toAtomS.calls k _ _ l0_0 t104 _ ?side1 ?side2 A2.out).mono ?_); (case side1 => repeat (first | exact (Kd.C_below HR0_0.out HB.out) | (with_reducible refine Kd.C_alloc ?_ _) | (with_reducible refine Kd.C_drewN ?_ _) | (with_reducible refine Kd.C_drew ?_))); (case side2 => exact HC0_0.out); rintro e w9 ⟨v105, rfl, ho0, hb⟩; refine ⟨_, rfl, ?_⟩; have n0_ := mz (Kd.R_lower ho0 (below_size (by repeat (first | (with_reducible first | exact HB.out | apply below_alloc | apply pw_below_drewN | apply below_drew1 | refine below_set ?_ GE101.out | refine below_set ?_ GE102.out | refine below_set ?_ GE103.out) | exact HB.out)))); have n1_ := mz (blk_below (g := gb101) (o := .cells #[.slice A0_0 l0_0.length c0_0] 24 (0, 0)) (by (with_reducible repeat (first | refine blk_drewN ?_ _ | refine blk_drew ?_ | refine blk_alloc ?_ _)); exact BK101.out) hb); have n2_ := mz (blk_below (g := gb102) (o := .cells #[.slice none 0 0] 28 (0, 0)) (by (with_reducible repeat (first | refine blk_drewN ?_ _ | refine blk_drew ?_ | refine blk_alloc ?_ _)); exact BK102.out) hb); have n3_ := mz (blk_below (g := gb103) (o := .cells #[.slice none 0 0] 28 (0, 0)) (by (with_reducible repeat (first | refine blk_drewN ?_ _ | refine blk_drew ?_ | refine blk_alloc ?_ _)); exact BK103.out) hb); have n4_ := mz (below_step (by repeat (first | (with_reducible first | exact HB.out | apply below_alloc | apply pw_below_drewN | apply below_drew1 | refine below_set ?_ GE101.out | refine below_set ?_ GE102.out | refine below_set ?_ GE103.out) | exact HB.out)) hb); clear BK101; clear BK102; clear BK103; clear HB; have HO106 := n0_; have BK101 := n1_; have BK102 := n2_; have BK103 := n3_; have HB := n4_; clear n0_ n1_ n2_ n3_ n4_; (try clear hb); (try clear hb2); (try clear hk); (try clear hi); (try clear ho0); obtain ⟨Ao10, co10, eo10⟩ := Kd.R_slice HO106.out; subst eo10; have hnb11 := NB103_102.out; have hnc11 := NB102_103.out; have hcz12_0 : w9.cell? ⟨gb103, 0, none⟩ = some (.slice none 0 0) := (blk_cell BK103.out 0).trans rfl; have hfz12_0 := blk_frozen BK103.out 0; have hcz13_0 : w9.cell? ⟨gb102, 0, none⟩ = some (.slice none 0 0) := (blk_cell BK102.out 0).trans rfl; have hfz13_0 := blk_frozen BK102.out 0))
  refine bodyPost_ret (results_cell_row rfl _ _ gb102 28 #[.slice Ao10 t104.length co10] (0, 0) _ rfl (by (with_reducible repeat (first | refine blk_drewN ?_ _ | refine blk_drew ?_ | refine blk_alloc ?_ _)); refine blk_put (cs := #[.slice none 0 0]) ?_ 0 _ rfl; (with_reducible repeat (first | refine blk_drewN ?_ _ | refine blk_drew ?_ | refine blk_alloc ?_ _)); refine blk_far ?_ NB102_103.out _; (with_reducible repeat (first | refine blk_drewN ?_ _ | refine blk_drew ?_ | refine blk_alloc ?_ _)); exact BK102.out) Try.underlying28 rfl (by kernel_rfl)) rfl ?_
  exact ⟨_, by first | rfl | (simp [errW_none, errW_some] <;> rfl) | (simp [*, errW_none, errW_some] <;> rfl), by (with_reducible repeat (first | apply Kd.R_alloc | apply Kd.R_drewN | apply Kd.R_drew)); exact Kd.R_mono (Kd.R_far (p := ⟨gb102, 0, none⟩) (Kd.R_far (p := ⟨gb103, 0, none⟩) (Kd.R_types (Kd.R_types HO106.out BK103.out (by decide)) BK102.out (by decide)) (fun _ hk => hk.1.2) (.slice Ao10 t104.length co10)) (fun _ hk => hk.2) (.slice Ao10 t104.length co10)) (fun _ hk => trivial), by repeat (first | (with_reducible first | exact HB.out | apply below_alloc | apply pw_below_drewN | apply below_drew1 | refine below_set ?_ GE101.out | refine below_set ?_ GE102.out | refine below_set ?_ GE103.out) | exact HB.out)⟩
end
section
attribute [local go_sem] max2_int min2_int max_two min_two max_three min_three max_four min_four
def laws_eqAtom.f (a0_0 : Int) (a0_1 : Int) (a0_2 : Int) (a0_3 : Int) (a0_4 : ByteArray) (a0_5 : Bool) (a1_0 : Int) (a1_1 : Int) (a1_2 : Int) (a1_3 : Int) (a1_4 : ByteArray) (a1_5 : Bool) : Option (Bool) := if a0_0 = a1_0 then (if a0_1 = a1_1 then (if a0_2 = a1_2 then (if a0_3 = a1_3 then (if a0_4.toList = a1_4.toList then (if (a0_5 != a1_5) = true then (some false) else (some true)) else (some false)) else (some false)) else (some false)) else (some false)) else (some false)
set_option maxHeartbeats 8000000 in
set_option maxRecDepth 100000 in
theorem laws_eqAtom.calls (a0_0 : Int) (a0_1 : Int) (a0_2 : Int) (a0_3 : Int) (a0_4 : ByteArray) (a0_5 : Bool) (a1_0 : Int) (a1_1 : Int) (a1_2 : Int) (a1_3 : Int) (a1_4 : ByteArray) (a1_5 : Bool) (r : Bool) (w : World) (h : laws_eqAtom.f a0_0 a0_1 a0_2 a0_3 a0_4 a0_5 a1_0 a1_1 a1_2 a1_3 a1_4 a1_5 = some r) :
    Calls Try.prog 37 #[.agg #[.int .i64 a0_0, .int .i64 a0_1, .int .i64 a0_2, .int .i64 a0_3, .string a0_4, .bool a0_5], .agg #[.int .i64 a1_0, .int .i64 a1_1, .int .i64 a1_2, .int .i64 a1_3, .string a1_4, .bool a1_5]] w fun e w' => e = .returned (.bool r) ∧ Below w.heap.size w w' := by
  have hu41 := Try.underlying41
  have HB := mz (Below.refl w.heap.size w)
  have H : (if a0_0 = a1_0 then (if a0_1 = a1_1 then (if a0_2 = a1_2 then (if a0_3 = a1_3 then (if a0_4.toList = a1_4.toList then (if (a0_5 != a1_5) = true then (some false) else (some true)) else (some false)) else (some false)) else (some false)) else (some false)) else (some false)) = some r := h
  clear h
  by_cases c3 : a0_0 = a1_0
  · rw [if_pos c3] at H
    have c3b0 : (a0_0 == a1_0) = true := beq_iff_eq.mpr c3
    have c3b1 : (a0_0 != a1_0) = false := bne_eq_false_iff_eq.mpr c3
    clear c3
    by_cases c4 : a0_1 = a1_1
    · rw [if_pos c4] at H
      have c4b0 : (a0_1 == a1_1) = true := beq_iff_eq.mpr c4
      have c4b1 : (a0_1 != a1_1) = false := bne_eq_false_iff_eq.mpr c4
      clear c4
      by_cases c5 : a0_2 = a1_2
      · rw [if_pos c5] at H
        have c5b0 : (a0_2 == a1_2) = true := beq_iff_eq.mpr c5
        have c5b1 : (a0_2 != a1_2) = false := bne_eq_false_iff_eq.mpr c5
        clear c5
        by_cases c6 : a0_3 = a1_3
        · rw [if_pos c6] at H
          have c6b0 : (a0_3 == a1_3) = true := beq_iff_eq.mpr c6
          have c6b1 : (a0_3 != a1_3) = false := bne_eq_false_iff_eq.mpr c6
          clear c6
          by_cases c7 : a0_4.toList = a1_4.toList
          · rw [if_pos c7] at H
            have c7b0 : (a0_4.toList == a1_4.toList) = true := beq_iff_eq.mpr c7
            have c7b1 : (a0_4.toList != a1_4.toList) = false := bne_eq_false_iff_eq.mpr c7
            clear c7
            by_cases c8 : (a0_5 != a1_5) = true
            · rw [if_pos c8] at H
              have c8b0 : (a0_5 != a1_5) = true := c8
              (try (have c8b1 : decide (a0_5 = a1_5) = false := by simpa using c8))
              (try (have c8b2 : (a0_5 == a1_5) = false := by simpa using c8))
              (try (have c8b3 : ¬ (a0_5 = a1_5) := by simpa using c8))
              clear c8
              obtain rfl := Option.some.inj H
              go_enter Try.func37, Try.ntmps37
              go_wp2_with (first | ((with_reducible refine gate_dst (N := 2) rfl ?_); refine box_event ?hg (N := 2) ?hd (cs := #[.int .i64 a0_0, .int .i64 a0_1, .int .i64 a0_2, .int .i64 a0_3, .string a0_4, .bool a0_5]) (t := 41) ?hr ?_; (case hd => rfl); (case hg => rfl); (case hr => first | (go_simp; done) | (go_simp; rfl)); intro gb101 hg w9 hbox hb; have n0_ := mz (below_step (by repeat (first | (with_reducible first | exact HB.out | apply below_alloc | apply pw_below_drewN | apply below_drew1) | exact HB.out)) hb); have n1_ := mz (hbox); have n2_ := mz ((by rw [hg]; exact (below_size (by repeat (first | (with_reducible first | exact HB.out | apply below_alloc | apply pw_below_drewN | apply below_drew1) | exact HB.out))) : w.heap.size ≤ gb101)); have n3_ := mz ((by rw [hg]; exact (below_size (by repeat (first | (with_reducible first | exact HB.out | apply below_alloc | apply pw_below_drewN | apply below_drew1) | exact HB.out))) : w.heap.size ≤ gb101)); clear HB; have HB := n0_; have BK101 := n1_; have GW101 := n2_; have GE101 := n3_; clear n0_ n1_ n2_ n3_; clear hb hbox hg) | ((with_reducible refine gate_dst (N := 3) rfl ?_); refine box_event ?hg (N := 3) ?hd (cs := #[.int .i64 a1_0, .int .i64 a1_1, .int .i64 a1_2, .int .i64 a1_3, .string a1_4, .bool a1_5]) (t := 41) ?hr ?_; (case hd => rfl); (case hg => rfl); (case hr => first | (go_simp; done) | (go_simp; rfl)); intro gb102 hg w10 hbox hb; have n0_ := mz (blk_below (g := gb101) (o := .cells #[.int .i64 a0_0, .int .i64 a0_1, .int .i64 a0_2, .int .i64 a0_3, .string a0_4, .bool a0_5] 41 (0, 0)) (by (with_reducible repeat (first | refine blk_drewN ?_ _ | refine blk_drew ?_ | refine blk_alloc ?_ _)); exact BK101.out) hb); have n1_ := mz (below_step (by repeat (first | (with_reducible first | exact HB.out | apply below_alloc | apply pw_below_drewN | apply below_drew1 | refine below_set ?_ GE101.out) | exact HB.out)) hb); have n2_ := mz (hbox); have n3_ := mz ((by rw [hg]; exact (below_size (by repeat (first | (with_reducible first | exact HB.out | apply below_alloc | apply pw_below_drewN | apply below_drew1 | refine below_set ?_ GE101.out) | exact HB.out))) : w.heap.size ≤ gb102)); have n4_ := mz ((by rw [hg]; exact (below_size (by repeat (first | (with_reducible first | exact HB.out | apply below_alloc | apply pw_below_drewN | apply below_drew1 | refine below_set ?_ GE101.out) | exact HB.out))) : w.heap.size ≤ gb102)); have n5_ := mz ((by rw [hg]; exact Nat.ne_of_lt (blk_lt (g := gb101) (o := .cells #[.int .i64 a0_0, .int .i64 a0_1, .int .i64 a0_2, .int .i64 a0_3, .string a0_4, .bool a0_5] 41 (0, 0)) (by (with_reducible repeat (first | refine blk_drewN ?_ _ | refine blk_drew ?_ | refine blk_alloc ?_ _)); exact BK101.out)) : gb101 ≠ gb102)); have n6_ := mz ((by rw [hg]; exact Nat.ne_of_gt (blk_lt (g := gb101) (o := .cells #[.int .i64 a0_0, .int .i64 a0_1, .int .i64 a0_2, .int .i64 a0_3, .string a0_4, .bool a0_5] 41 (0, 0)) (by (with_reducible repeat (first | refine blk_drewN ?_ _ | refine blk_drew ?_ | refine blk_alloc ?_ _)); exact BK101.out)) : gb102 ≠ gb101)); clear BK101; clear HB; have BK101 := n0_; have HB := n1_; have BK102 := n2_; have GW102 := n3_; have GE102 := n4_; have NB101_102 := n5_; have NB102_101 := n6_; clear n0_ n1_ n2_ n3_ n4_ n5_ n6_; clear hb hbox hg; have hnb11 := NB101_102.out; have hnc11 := NB102_101.out; have hcz12_0 : w10.cell? ⟨gb101, 0, none⟩ = some (.int .i64 a0_0) := (blk_cell BK101.out 0).trans rfl; have hcz12_1 : w10.cell? ⟨gb101, 1, none⟩ = some (.int .i64 a0_1) := (blk_cell BK101.out 1).trans rfl; have hcz12_2 : w10.cell? ⟨gb101, 2, none⟩ = some (.int .i64 a0_2) := (blk_cell BK101.out 2).trans rfl; have hcz12_3 : w10.cell? ⟨gb101, 3, none⟩ = some (.int .i64 a0_3) := (blk_cell BK101.out 3).trans rfl; have hcz12_4 : w10.cell? ⟨gb101, 4, none⟩ = some (.string a0_4) := (blk_cell BK101.out 4).trans rfl; have hcz12_5 : w10.cell? ⟨gb101, 5, none⟩ = some (.bool a0_5) := (blk_cell BK101.out 5).trans rfl; have hfz12_0 := blk_frozen BK101.out 0; have hfz12_1 := blk_frozen BK101.out 1; have hfz12_2 := blk_frozen BK101.out 2; have hfz12_3 := blk_frozen BK101.out 3; have hfz12_4 := blk_frozen BK101.out 4; have hfz12_5 := blk_frozen BK101.out 5; have hcz13_0 : w10.cell? ⟨gb102, 0, none⟩ = some (.int .i64 a1_0) := (blk_cell BK102.out 0).trans rfl; have hcz13_1 : w10.cell? ⟨gb102, 1, none⟩ = some (.int .i64 a1_1) := (blk_cell BK102.out 1).trans rfl; have hcz13_2 : w10.cell? ⟨gb102, 2, none⟩ = some (.int .i64 a1_2) := (blk_cell BK102.out 2).trans rfl; have hcz13_3 : w10.cell? ⟨gb102, 3, none⟩ = some (.int .i64 a1_3) := (blk_cell BK102.out 3).trans rfl; have hcz13_4 : w10.cell? ⟨gb102, 4, none⟩ = some (.string a1_4) := (blk_cell BK102.out 4).trans rfl; have hcz13_5 : w10.cell? ⟨gb102, 5, none⟩ = some (.bool a1_5) := (blk_cell BK102.out 5).trans rfl; have hfz13_0 := blk_frozen BK102.out 0; have hfz13_1 := blk_frozen BK102.out 1; have hfz13_2 := blk_frozen BK102.out 2; have hfz13_3 := blk_frozen BK102.out 3; have hfz13_4 := blk_frozen BK102.out 4; have hfz13_5 := blk_frozen BK102.out 5))
              go_ret
              exact ⟨by first | rfl | (simp [errW_none, errW_some] <;> rfl) | (simp [*, errW_none, errW_some] <;> rfl), by repeat (first | (with_reducible first | exact HB.out | apply below_alloc | apply pw_below_drewN | apply below_drew1 | refine below_set ?_ GE101.out | refine below_set ?_ GE102.out) | exact HB.out)⟩
            · rw [if_neg c8] at H
              have c8b0 : (a0_5 != a1_5) = false := by simpa using c8
              (try (have c8b1 : decide (a0_5 = a1_5) = true := by simpa using c8))
              (try (have c8b2 : (a0_5 == a1_5) = true := by simpa using c8))
              clear c8
              obtain rfl := Option.some.inj H
              go_enter Try.func37, Try.ntmps37
              go_wp2_with (first | ((with_reducible refine gate_dst (N := 2) rfl ?_); refine box_event ?hg (N := 2) ?hd (cs := #[.int .i64 a0_0, .int .i64 a0_1, .int .i64 a0_2, .int .i64 a0_3, .string a0_4, .bool a0_5]) (t := 41) ?hr ?_; (case hd => rfl); (case hg => rfl); (case hr => first | (go_simp; done) | (go_simp; rfl)); intro gb101 hg w14 hbox hb; have n0_ := mz (below_step (by repeat (first | (with_reducible first | exact HB.out | apply below_alloc | apply pw_below_drewN | apply below_drew1) | exact HB.out)) hb); have n1_ := mz (hbox); have n2_ := mz ((by rw [hg]; exact (below_size (by repeat (first | (with_reducible first | exact HB.out | apply below_alloc | apply pw_below_drewN | apply below_drew1) | exact HB.out))) : w.heap.size ≤ gb101)); have n3_ := mz ((by rw [hg]; exact (below_size (by repeat (first | (with_reducible first | exact HB.out | apply below_alloc | apply pw_below_drewN | apply below_drew1) | exact HB.out))) : w.heap.size ≤ gb101)); clear HB; have HB := n0_; have BK101 := n1_; have GW101 := n2_; have GE101 := n3_; clear n0_ n1_ n2_ n3_; clear hb hbox hg) | ((with_reducible refine gate_dst (N := 3) rfl ?_); refine box_event ?hg (N := 3) ?hd (cs := #[.int .i64 a1_0, .int .i64 a1_1, .int .i64 a1_2, .int .i64 a1_3, .string a1_4, .bool a1_5]) (t := 41) ?hr ?_; (case hd => rfl); (case hg => rfl); (case hr => first | (go_simp; done) | (go_simp; rfl)); intro gb102 hg w15 hbox hb; have n0_ := mz (blk_below (g := gb101) (o := .cells #[.int .i64 a0_0, .int .i64 a0_1, .int .i64 a0_2, .int .i64 a0_3, .string a0_4, .bool a0_5] 41 (0, 0)) (by (with_reducible repeat (first | refine blk_drewN ?_ _ | refine blk_drew ?_ | refine blk_alloc ?_ _)); exact BK101.out) hb); have n1_ := mz (below_step (by repeat (first | (with_reducible first | exact HB.out | apply below_alloc | apply pw_below_drewN | apply below_drew1 | refine below_set ?_ GE101.out) | exact HB.out)) hb); have n2_ := mz (hbox); have n3_ := mz ((by rw [hg]; exact (below_size (by repeat (first | (with_reducible first | exact HB.out | apply below_alloc | apply pw_below_drewN | apply below_drew1 | refine below_set ?_ GE101.out) | exact HB.out))) : w.heap.size ≤ gb102)); have n4_ := mz ((by rw [hg]; exact (below_size (by repeat (first | (with_reducible first | exact HB.out | apply below_alloc | apply pw_below_drewN | apply below_drew1 | refine below_set ?_ GE101.out) | exact HB.out))) : w.heap.size ≤ gb102)); have n5_ := mz ((by rw [hg]; exact Nat.ne_of_lt (blk_lt (g := gb101) (o := .cells #[.int .i64 a0_0, .int .i64 a0_1, .int .i64 a0_2, .int .i64 a0_3, .string a0_4, .bool a0_5] 41 (0, 0)) (by (with_reducible repeat (first | refine blk_drewN ?_ _ | refine blk_drew ?_ | refine blk_alloc ?_ _)); exact BK101.out)) : gb101 ≠ gb102)); have n6_ := mz ((by rw [hg]; exact Nat.ne_of_gt (blk_lt (g := gb101) (o := .cells #[.int .i64 a0_0, .int .i64 a0_1, .int .i64 a0_2, .int .i64 a0_3, .string a0_4, .bool a0_5] 41 (0, 0)) (by (with_reducible repeat (first | refine blk_drewN ?_ _ | refine blk_drew ?_ | refine blk_alloc ?_ _)); exact BK101.out)) : gb102 ≠ gb101)); clear BK101; clear HB; have BK101 := n0_; have HB := n1_; have BK102 := n2_; have GW102 := n3_; have GE102 := n4_; have NB101_102 := n5_; have NB102_101 := n6_; clear n0_ n1_ n2_ n3_ n4_ n5_ n6_; clear hb hbox hg; have hnb16 := NB101_102.out; have hnc16 := NB102_101.out; have hcz17_0 : w15.cell? ⟨gb101, 0, none⟩ = some (.int .i64 a0_0) := (blk_cell BK101.out 0).trans rfl; have hcz17_1 : w15.cell? ⟨gb101, 1, none⟩ = some (.int .i64 a0_1) := (blk_cell BK101.out 1).trans rfl; have hcz17_2 : w15.cell? ⟨gb101, 2, none⟩ = some (.int .i64 a0_2) := (blk_cell BK101.out 2).trans rfl; have hcz17_3 : w15.cell? ⟨gb101, 3, none⟩ = some (.int .i64 a0_3) := (blk_cell BK101.out 3).trans rfl; have hcz17_4 : w15.cell? ⟨gb101, 4, none⟩ = some (.string a0_4) := (blk_cell BK101.out 4).trans rfl; have hcz17_5 : w15.cell? ⟨gb101, 5, none⟩ = some (.bool a0_5) := (blk_cell BK101.out 5).trans rfl; have hfz17_0 := blk_frozen BK101.out 0; have hfz17_1 := blk_frozen BK101.out 1; have hfz17_2 := blk_frozen BK101.out 2; have hfz17_3 := blk_frozen BK101.out 3; have hfz17_4 := blk_frozen BK101.out 4; have hfz17_5 := blk_frozen BK101.out 5; have hcz18_0 : w15.cell? ⟨gb102, 0, none⟩ = some (.int .i64 a1_0) := (blk_cell BK102.out 0).trans rfl; have hcz18_1 : w15.cell? ⟨gb102, 1, none⟩ = some (.int .i64 a1_1) := (blk_cell BK102.out 1).trans rfl; have hcz18_2 : w15.cell? ⟨gb102, 2, none⟩ = some (.int .i64 a1_2) := (blk_cell BK102.out 2).trans rfl; have hcz18_3 : w15.cell? ⟨gb102, 3, none⟩ = some (.int .i64 a1_3) := (blk_cell BK102.out 3).trans rfl; have hcz18_4 : w15.cell? ⟨gb102, 4, none⟩ = some (.string a1_4) := (blk_cell BK102.out 4).trans rfl; have hcz18_5 : w15.cell? ⟨gb102, 5, none⟩ = some (.bool a1_5) := (blk_cell BK102.out 5).trans rfl; have hfz18_0 := blk_frozen BK102.out 0; have hfz18_1 := blk_frozen BK102.out 1; have hfz18_2 := blk_frozen BK102.out 2; have hfz18_3 := blk_frozen BK102.out 3; have hfz18_4 := blk_frozen BK102.out 4; have hfz18_5 := blk_frozen BK102.out 5))
              go_ret
              exact ⟨by first | rfl | (simp [errW_none, errW_some] <;> rfl) | (simp [*, errW_none, errW_some] <;> rfl), by repeat (first | (with_reducible first | exact HB.out | apply below_alloc | apply pw_below_drewN | apply below_drew1 | refine below_set ?_ GE101.out | refine below_set ?_ GE102.out) | exact HB.out)⟩
          · rw [if_neg c7] at H
            have c7b0 : (a0_4.toList == a1_4.toList) = false := beq_eq_false_iff_ne.mpr c7
            have c7b1 : (a0_4.toList != a1_4.toList) = true := bne_iff_ne.mpr c7
            obtain rfl := Option.some.inj H
            go_enter Try.func37, Try.ntmps37
            go_wp2_with (first | ((with_reducible refine gate_dst (N := 2) rfl ?_); refine box_event ?hg (N := 2) ?hd (cs := #[.int .i64 a0_0, .int .i64 a0_1, .int .i64 a0_2, .int .i64 a0_3, .string a0_4, .bool a0_5]) (t := 41) ?hr ?_; (case hd => rfl); (case hg => rfl); (case hr => first | (go_simp; done) | (go_simp; rfl)); intro gb101 hg w19 hbox hb; have n0_ := mz (below_step (by repeat (first | (with_reducible first | exact HB.out | apply below_alloc | apply pw_below_drewN | apply below_drew1) | exact HB.out)) hb); have n1_ := mz (hbox); have n2_ := mz ((by rw [hg]; exact (below_size (by repeat (first | (with_reducible first | exact HB.out | apply below_alloc | apply pw_below_drewN | apply below_drew1) | exact HB.out))) : w.heap.size ≤ gb101)); have n3_ := mz ((by rw [hg]; exact (below_size (by repeat (first | (with_reducible first | exact HB.out | apply below_alloc | apply pw_below_drewN | apply below_drew1) | exact HB.out))) : w.heap.size ≤ gb101)); clear HB; have HB := n0_; have BK101 := n1_; have GW101 := n2_; have GE101 := n3_; clear n0_ n1_ n2_ n3_; clear hb hbox hg) | ((with_reducible refine gate_dst (N := 3) rfl ?_); refine box_event ?hg (N := 3) ?hd (cs := #[.int .i64 a1_0, .int .i64 a1_1, .int .i64 a1_2, .int .i64 a1_3, .string a1_4, .bool a1_5]) (t := 41) ?hr ?_; (case hd => rfl); (case hg => rfl); (case hr => first | (go_simp; done) | (go_simp; rfl)); intro gb102 hg w20 hbox hb; have n0_ := mz (blk_below (g := gb101) (o := .cells #[.int .i64 a0_0, .int .i64 a0_1, .int .i64 a0_2, .int .i64 a0_3, .string a0_4, .bool a0_5] 41 (0, 0)) (by (with_reducible repeat (first | refine blk_drewN ?_ _ | refine blk_drew ?_ | refine blk_alloc ?_ _)); exact BK101.out) hb); have n1_ := mz (below_step (by repeat (first | (with_reducible first | exact HB.out | apply below_alloc | apply pw_below_drewN | apply below_drew1 | refine below_set ?_ GE101.out) | exact HB.out)) hb); have n2_ := mz (hbox); have n3_ := mz ((by rw [hg]; exact (below_size (by repeat (first | (with_reducible first | exact HB.out | apply below_alloc | apply pw_below_drewN | apply below_drew1 | refine below_set ?_ GE101.out) | exact HB.out))) : w.heap.size ≤ gb102)); have n4_ := mz ((by rw [hg]; exact (below_size (by repeat (first | (with_reducible first | exact HB.out | apply below_alloc | apply pw_below_drewN | apply below_drew1 | refine below_set ?_ GE101.out) | exact HB.out))) : w.heap.size ≤ gb102)); have n5_ := mz ((by rw [hg]; exact Nat.ne_of_lt (blk_lt (g := gb101) (o := .cells #[.int .i64 a0_0, .int .i64 a0_1, .int .i64 a0_2, .int .i64 a0_3, .string a0_4, .bool a0_5] 41 (0, 0)) (by (with_reducible repeat (first | refine blk_drewN ?_ _ | refine blk_drew ?_ | refine blk_alloc ?_ _)); exact BK101.out)) : gb101 ≠ gb102)); have n6_ := mz ((by rw [hg]; exact Nat.ne_of_gt (blk_lt (g := gb101) (o := .cells #[.int .i64 a0_0, .int .i64 a0_1, .int .i64 a0_2, .int .i64 a0_3, .string a0_4, .bool a0_5] 41 (0, 0)) (by (with_reducible repeat (first | refine blk_drewN ?_ _ | refine blk_drew ?_ | refine blk_alloc ?_ _)); exact BK101.out)) : gb102 ≠ gb101)); clear BK101; clear HB; have BK101 := n0_; have HB := n1_; have BK102 := n2_; have GW102 := n3_; have GE102 := n4_; have NB101_102 := n5_; have NB102_101 := n6_; clear n0_ n1_ n2_ n3_ n4_ n5_ n6_; clear hb hbox hg; have hnb21 := NB101_102.out; have hnc21 := NB102_101.out; have hcz22_0 : w20.cell? ⟨gb101, 0, none⟩ = some (.int .i64 a0_0) := (blk_cell BK101.out 0).trans rfl; have hcz22_1 : w20.cell? ⟨gb101, 1, none⟩ = some (.int .i64 a0_1) := (blk_cell BK101.out 1).trans rfl; have hcz22_2 : w20.cell? ⟨gb101, 2, none⟩ = some (.int .i64 a0_2) := (blk_cell BK101.out 2).trans rfl; have hcz22_3 : w20.cell? ⟨gb101, 3, none⟩ = some (.int .i64 a0_3) := (blk_cell BK101.out 3).trans rfl; have hcz22_4 : w20.cell? ⟨gb101, 4, none⟩ = some (.string a0_4) := (blk_cell BK101.out 4).trans rfl; have hcz22_5 : w20.cell? ⟨gb101, 5, none⟩ = some (.bool a0_5) := (blk_cell BK101.out 5).trans rfl; have hfz22_0 := blk_frozen BK101.out 0; have hfz22_1 := blk_frozen BK101.out 1; have hfz22_2 := blk_frozen BK101.out 2; have hfz22_3 := blk_frozen BK101.out 3; have hfz22_4 := blk_frozen BK101.out 4; have hfz22_5 := blk_frozen BK101.out 5; have hcz23_0 : w20.cell? ⟨gb102, 0, none⟩ = some (.int .i64 a1_0) := (blk_cell BK102.out 0).trans rfl; have hcz23_1 : w20.cell? ⟨gb102, 1, none⟩ = some (.int .i64 a1_1) := (blk_cell BK102.out 1).trans rfl; have hcz23_2 : w20.cell? ⟨gb102, 2, none⟩ = some (.int .i64 a1_2) := (blk_cell BK102.out 2).trans rfl; have hcz23_3 : w20.cell? ⟨gb102, 3, none⟩ = some (.int .i64 a1_3) := (blk_cell BK102.out 3).trans rfl; have hcz23_4 : w20.cell? ⟨gb102, 4, none⟩ = some (.string a1_4) := (blk_cell BK102.out 4).trans rfl; have hcz23_5 : w20.cell? ⟨gb102, 5, none⟩ = some (.bool a1_5) := (blk_cell BK102.out 5).trans rfl; have hfz23_0 := blk_frozen BK102.out 0; have hfz23_1 := blk_frozen BK102.out 1; have hfz23_2 := blk_frozen BK102.out 2; have hfz23_3 := blk_frozen BK102.out 3; have hfz23_4 := blk_frozen BK102.out 4; have hfz23_5 := blk_frozen BK102.out 5))
            go_ret
            exact ⟨by first | rfl | (simp [errW_none, errW_some] <;> rfl) | (simp [*, errW_none, errW_some] <;> rfl), by repeat (first | (with_reducible first | exact HB.out | apply below_alloc | apply pw_below_drewN | apply below_drew1 | refine below_set ?_ GE101.out | refine below_set ?_ GE102.out) | exact HB.out)⟩
        · rw [if_neg c6] at H
          have c6b0 : (a0_3 == a1_3) = false := beq_eq_false_iff_ne.mpr c6
          have c6b1 : (a0_3 != a1_3) = true := bne_iff_ne.mpr c6
          obtain rfl := Option.some.inj H
          go_enter Try.func37, Try.ntmps37
          go_wp2_with (first | ((with_reducible refine gate_dst (N := 2) rfl ?_); refine box_event ?hg (N := 2) ?hd (cs := #[.int .i64 a0_0, .int .i64 a0_1, .int .i64 a0_2, .int .i64 a0_3, .string a0_4, .bool a0_5]) (t := 41) ?hr ?_; (case hd => rfl); (case hg => rfl); (case hr => first | (go_simp; done) | (go_simp; rfl)); intro gb101 hg w24 hbox hb; have n0_ := mz (below_step (by repeat (first | (with_reducible first | exact HB.out | apply below_alloc | apply pw_below_drewN | apply below_drew1) | exact HB.out)) hb); have n1_ := mz (hbox); have n2_ := mz ((by rw [hg]; exact (below_size (by repeat (first | (with_reducible first | exact HB.out | apply below_alloc | apply pw_below_drewN | apply below_drew1) | exact HB.out))) : w.heap.size ≤ gb101)); have n3_ := mz ((by rw [hg]; exact (below_size (by repeat (first | (with_reducible first | exact HB.out | apply below_alloc | apply pw_below_drewN | apply below_drew1) | exact HB.out))) : w.heap.size ≤ gb101)); clear HB; have HB := n0_; have BK101 := n1_; have GW101 := n2_; have GE101 := n3_; clear n0_ n1_ n2_ n3_; clear hb hbox hg) | ((with_reducible refine gate_dst (N := 3) rfl ?_); refine box_event ?hg (N := 3) ?hd (cs := #[.int .i64 a1_0, .int .i64 a1_1, .int .i64 a1_2, .int .i64 a1_3, .string a1_4, .bool a1_5]) (t := 41) ?hr ?_; (case hd => rfl); (case hg => rfl); (case hr => first | (go_simp; done) | (go_simp; rfl)); intro gb102 hg w25 hbox hb; have n0_ := mz (blk_below (g := gb101) (o := .cells #[.int .i64 a0_0, .int .i64 a0_1, .int .i64 a0_2, .int .i64 a0_3, .string a0_4, .bool a0_5] 41 (0, 0)) (by (with_reducible repeat (first | refine blk_drewN ?_ _ | refine blk_drew ?_ | refine blk_alloc ?_ _)); exact BK101.out) hb); have n1_ := mz (below_step (by repeat (first | (with_reducible first | exact HB.out | apply below_alloc | apply pw_below_drewN | apply below_drew1 | refine below_set ?_ GE101.out) | exact HB.out)) hb); have n2_ := mz (hbox); have n3_ := mz ((by rw [hg]; exact (below_size (by repeat (first | (with_reducible first | exact HB.out | apply below_alloc | apply pw_below_drewN | apply below_drew1 | refine below_set ?_ GE101.out) | exact HB.out))) : w.heap.size ≤ gb102)); have n4_ := mz ((by rw [hg]; exact (below_size (by repeat (first | (with_reducible first | exact HB.out | apply below_alloc | apply pw_below_drewN | apply below_drew1 | refine below_set ?_ GE101.out) | exact HB.out))) : w.heap.size ≤ gb102)); have n5_ := mz ((by rw [hg]; exact Nat.ne_of_lt (blk_lt (g := gb101) (o := .cells #[.int .i64 a0_0, .int .i64 a0_1, .int .i64 a0_2, .int .i64 a0_3, .string a0_4, .bool a0_5] 41 (0, 0)) (by (with_reducible repeat (first | refine blk_drewN ?_ _ | refine blk_drew ?_ | refine blk_alloc ?_ _)); exact BK101.out)) : gb101 ≠ gb102)); have n6_ := mz ((by rw [hg]; exact Nat.ne_of_gt (blk_lt (g := gb101) (o := .cells #[.int .i64 a0_0, .int .i64 a0_1, .int .i64 a0_2, .int .i64 a0_3, .string a0_4, .bool a0_5] 41 (0, 0)) (by (with_reducible repeat (first | refine blk_drewN ?_ _ | refine blk_drew ?_ | refine blk_alloc ?_ _)); exact BK101.out)) : gb102 ≠ gb101)); clear BK101; clear HB; have BK101 := n0_; have HB := n1_; have BK102 := n2_; have GW102 := n3_; have GE102 := n4_; have NB101_102 := n5_; have NB102_101 := n6_; clear n0_ n1_ n2_ n3_ n4_ n5_ n6_; clear hb hbox hg; have hnb26 := NB101_102.out; have hnc26 := NB102_101.out; have hcz27_0 : w25.cell? ⟨gb101, 0, none⟩ = some (.int .i64 a0_0) := (blk_cell BK101.out 0).trans rfl; have hcz27_1 : w25.cell? ⟨gb101, 1, none⟩ = some (.int .i64 a0_1) := (blk_cell BK101.out 1).trans rfl; have hcz27_2 : w25.cell? ⟨gb101, 2, none⟩ = some (.int .i64 a0_2) := (blk_cell BK101.out 2).trans rfl; have hcz27_3 : w25.cell? ⟨gb101, 3, none⟩ = some (.int .i64 a0_3) := (blk_cell BK101.out 3).trans rfl; have hcz27_4 : w25.cell? ⟨gb101, 4, none⟩ = some (.string a0_4) := (blk_cell BK101.out 4).trans rfl; have hcz27_5 : w25.cell? ⟨gb101, 5, none⟩ = some (.bool a0_5) := (blk_cell BK101.out 5).trans rfl; have hfz27_0 := blk_frozen BK101.out 0; have hfz27_1 := blk_frozen BK101.out 1; have hfz27_2 := blk_frozen BK101.out 2; have hfz27_3 := blk_frozen BK101.out 3; have hfz27_4 := blk_frozen BK101.out 4; have hfz27_5 := blk_frozen BK101.out 5; have hcz28_0 : w25.cell? ⟨gb102, 0, none⟩ = some (.int .i64 a1_0) := (blk_cell BK102.out 0).trans rfl; have hcz28_1 : w25.cell? ⟨gb102, 1, none⟩ = some (.int .i64 a1_1) := (blk_cell BK102.out 1).trans rfl; have hcz28_2 : w25.cell? ⟨gb102, 2, none⟩ = some (.int .i64 a1_2) := (blk_cell BK102.out 2).trans rfl; have hcz28_3 : w25.cell? ⟨gb102, 3, none⟩ = some (.int .i64 a1_3) := (blk_cell BK102.out 3).trans rfl; have hcz28_4 : w25.cell? ⟨gb102, 4, none⟩ = some (.string a1_4) := (blk_cell BK102.out 4).trans rfl; have hcz28_5 : w25.cell? ⟨gb102, 5, none⟩ = some (.bool a1_5) := (blk_cell BK102.out 5).trans rfl; have hfz28_0 := blk_frozen BK102.out 0; have hfz28_1 := blk_frozen BK102.out 1; have hfz28_2 := blk_frozen BK102.out 2; have hfz28_3 := blk_frozen BK102.out 3; have hfz28_4 := blk_frozen BK102.out 4; have hfz28_5 := blk_frozen BK102.out 5))
          go_ret
          exact ⟨by first | rfl | (simp [errW_none, errW_some] <;> rfl) | (simp [*, errW_none, errW_some] <;> rfl), by repeat (first | (with_reducible first | exact HB.out | apply below_alloc | apply pw_below_drewN | apply below_drew1 | refine below_set ?_ GE101.out | refine below_set ?_ GE102.out) | exact HB.out)⟩
      · rw [if_neg c5] at H
        have c5b0 : (a0_2 == a1_2) = false := beq_eq_false_iff_ne.mpr c5
        have c5b1 : (a0_2 != a1_2) = true := bne_iff_ne.mpr c5
        obtain rfl := Option.some.inj H
        go_enter Try.func37, Try.ntmps37
        go_wp2_with (first | ((with_reducible refine gate_dst (N := 2) rfl ?_); refine box_event ?hg (N := 2) ?hd (cs := #[.int .i64 a0_0, .int .i64 a0_1, .int .i64 a0_2, .int .i64 a0_3, .string a0_4, .bool a0_5]) (t := 41) ?hr ?_; (case hd => rfl); (case hg => rfl); (case hr => first | (go_simp; done) | (go_simp; rfl)); intro gb101 hg w29 hbox hb; have n0_ := mz (below_step (by repeat (first | (with_reducible first | exact HB.out | apply below_alloc | apply pw_below_drewN | apply below_drew1) | exact HB.out)) hb); have n1_ := mz (hbox); have n2_ := mz ((by rw [hg]; exact (below_size (by repeat (first | (with_reducible first | exact HB.out | apply below_alloc | apply pw_below_drewN | apply below_drew1) | exact HB.out))) : w.heap.size ≤ gb101)); have n3_ := mz ((by rw [hg]; exact (below_size (by repeat (first | (with_reducible first | exact HB.out | apply below_alloc | apply pw_below_drewN | apply below_drew1) | exact HB.out))) : w.heap.size ≤ gb101)); clear HB; have HB := n0_; have BK101 := n1_; have GW101 := n2_; have GE101 := n3_; clear n0_ n1_ n2_ n3_; clear hb hbox hg) | ((with_reducible refine gate_dst (N := 3) rfl ?_); refine box_event ?hg (N := 3) ?hd (cs := #[.int .i64 a1_0, .int .i64 a1_1, .int .i64 a1_2, .int .i64 a1_3, .string a1_4, .bool a1_5]) (t := 41) ?hr ?_; (case hd => rfl); (case hg => rfl); (case hr => first | (go_simp; done) | (go_simp; rfl)); intro gb102 hg w30 hbox hb; have n0_ := mz (blk_below (g := gb101) (o := .cells #[.int .i64 a0_0, .int .i64 a0_1, .int .i64 a0_2, .int .i64 a0_3, .string a0_4, .bool a0_5] 41 (0, 0)) (by (with_reducible repeat (first | refine blk_drewN ?_ _ | refine blk_drew ?_ | refine blk_alloc ?_ _)); exact BK101.out) hb); have n1_ := mz (below_step (by repeat (first | (with_reducible first | exact HB.out | apply below_alloc | apply pw_below_drewN | apply below_drew1 | refine below_set ?_ GE101.out) | exact HB.out)) hb); have n2_ := mz (hbox); have n3_ := mz ((by rw [hg]; exact (below_size (by repeat (first | (with_reducible first | exact HB.out | apply below_alloc | apply pw_below_drewN | apply below_drew1 | refine below_set ?_ GE101.out) | exact HB.out))) : w.heap.size ≤ gb102)); have n4_ := mz ((by rw [hg]; exact (below_size (by repeat (first | (with_reducible first | exact HB.out | apply below_alloc | apply pw_below_drewN | apply below_drew1 | refine below_set ?_ GE101.out) | exact HB.out))) : w.heap.size ≤ gb102)); have n5_ := mz ((by rw [hg]; exact Nat.ne_of_lt (blk_lt (g := gb101) (o := .cells #[.int .i64 a0_0, .int .i64 a0_1, .int .i64 a0_2, .int .i64 a0_3, .string a0_4, .bool a0_5] 41 (0, 0)) (by (with_reducible repeat (first | refine blk_drewN ?_ _ | refine blk_drew ?_ | refine blk_alloc ?_ _)); exact BK101.out)) : gb101 ≠ gb102)); have n6_ := mz ((by rw [hg]; exact Nat.ne_of_gt (blk_lt (g := gb101) (o := .cells #[.int .i64 a0_0, .int .i64 a0_1, .int .i64 a0_2, .int .i64 a0_3, .string a0_4, .bool a0_5] 41 (0, 0)) (by (with_reducible repeat (first | refine blk_drewN ?_ _ | refine blk_drew ?_ | refine blk_alloc ?_ _)); exact BK101.out)) : gb102 ≠ gb101)); clear BK101; clear HB; have BK101 := n0_; have HB := n1_; have BK102 := n2_; have GW102 := n3_; have GE102 := n4_; have NB101_102 := n5_; have NB102_101 := n6_; clear n0_ n1_ n2_ n3_ n4_ n5_ n6_; clear hb hbox hg; have hnb31 := NB101_102.out; have hnc31 := NB102_101.out; have hcz32_0 : w30.cell? ⟨gb101, 0, none⟩ = some (.int .i64 a0_0) := (blk_cell BK101.out 0).trans rfl; have hcz32_1 : w30.cell? ⟨gb101, 1, none⟩ = some (.int .i64 a0_1) := (blk_cell BK101.out 1).trans rfl; have hcz32_2 : w30.cell? ⟨gb101, 2, none⟩ = some (.int .i64 a0_2) := (blk_cell BK101.out 2).trans rfl; have hcz32_3 : w30.cell? ⟨gb101, 3, none⟩ = some (.int .i64 a0_3) := (blk_cell BK101.out 3).trans rfl; have hcz32_4 : w30.cell? ⟨gb101, 4, none⟩ = some (.string a0_4) := (blk_cell BK101.out 4).trans rfl; have hcz32_5 : w30.cell? ⟨gb101, 5, none⟩ = some (.bool a0_5) := (blk_cell BK101.out 5).trans rfl; have hfz32_0 := blk_frozen BK101.out 0; have hfz32_1 := blk_frozen BK101.out 1; have hfz32_2 := blk_frozen BK101.out 2; have hfz32_3 := blk_frozen BK101.out 3; have hfz32_4 := blk_frozen BK101.out 4; have hfz32_5 := blk_frozen BK101.out 5; have hcz33_0 : w30.cell? ⟨gb102, 0, none⟩ = some (.int .i64 a1_0) := (blk_cell BK102.out 0).trans rfl; have hcz33_1 : w30.cell? ⟨gb102, 1, none⟩ = some (.int .i64 a1_1) := (blk_cell BK102.out 1).trans rfl; have hcz33_2 : w30.cell? ⟨gb102, 2, none⟩ = some (.int .i64 a1_2) := (blk_cell BK102.out 2).trans rfl; have hcz33_3 : w30.cell? ⟨gb102, 3, none⟩ = some (.int .i64 a1_3) := (blk_cell BK102.out 3).trans rfl; have hcz33_4 : w30.cell? ⟨gb102, 4, none⟩ = some (.string a1_4) := (blk_cell BK102.out 4).trans rfl; have hcz33_5 : w30.cell? ⟨gb102, 5, none⟩ = some (.bool a1_5) := (blk_cell BK102.out 5).trans rfl; have hfz33_0 := blk_frozen BK102.out 0; have hfz33_1 := blk_frozen BK102.out 1; have hfz33_2 := blk_frozen BK102.out 2; have hfz33_3 := blk_frozen BK102.out 3; have hfz33_4 := blk_frozen BK102.out 4; have hfz33_5 := blk_frozen BK102.out 5))
        go_ret
        exact ⟨by first | rfl | (simp [errW_none, errW_some] <;> rfl) | (simp [*, errW_none, errW_some] <;> rfl), by repeat (first | (with_reducible first | exact HB.out | apply below_alloc | apply pw_below_drewN | apply below_drew1 | refine below_set ?_ GE101.out | refine below_set ?_ GE102.out) | exact HB.out)⟩
    · rw [if_neg c4] at H
      have c4b0 : (a0_1 == a1_1) = false := beq_eq_false_iff_ne.mpr c4
      have c4b1 : (a0_1 != a1_1) = true := bne_iff_ne.mpr c4
      obtain rfl := Option.some.inj H
      go_enter Try.func37, Try.ntmps37
      go_wp2_with (first | ((with_reducible refine gate_dst (N := 2) rfl ?_); refine box_event ?hg (N := 2) ?hd (cs := #[.int .i64 a0_0, .int .i64 a0_1, .int .i64 a0_2, .int .i64 a0_3, .string a0_4, .bool a0_5]) (t := 41) ?hr ?_; (case hd => rfl); (case hg => rfl); (case hr => first | (go_simp; done) | (go_simp; rfl)); intro gb101 hg w34 hbox hb; have n0_ := mz (below_step (by repeat (first | (with_reducible first | exact HB.out | apply below_alloc | apply pw_below_drewN | apply below_drew1) | exact HB.out)) hb); have n1_ := mz (hbox); have n2_ := mz ((by rw [hg]; exact (below_size (by repeat (first | (with_reducible first | exact HB.out | apply below_alloc | apply pw_below_drewN | apply below_drew1) | exact HB.out))) : w.heap.size ≤ gb101)); have n3_ := mz ((by rw [hg]; exact (below_size (by repeat (first | (with_reducible first | exact HB.out | apply below_alloc | apply pw_below_drewN | apply below_drew1) | exact HB.out))) : w.heap.size ≤ gb101)); clear HB; have HB := n0_; have BK101 := n1_; have GW101 := n2_; have GE101 := n3_; clear n0_ n1_ n2_ n3_; clear hb hbox hg) | ((with_reducible refine gate_dst (N := 3) rfl ?_); refine box_event ?hg (N := 3) ?hd (cs := #[.int .i64 a1_0, .int .i64 a1_1, .int .i64 a1_2, .int .i64 a1_3, .string a1_4, .bool a1_5]) (t := 41) ?hr ?_; (case hd => rfl); (case hg => rfl); (case hr => first | (go_simp; done) | (go_simp; rfl)); intro gb102 hg w35 hbox hb; have n0_ := mz (blk_below (g := gb101) (o := .cells #[.int .i64 a0_0, .int .i64 a0_1, .int .i64 a0_2, .int .i64 a0_3, .string a0_4, .bool a0_5] 41 (0, 0)) (by (with_reducible repeat (first | refine blk_drewN ?_ _ | refine blk_drew ?_ | refine blk_alloc ?_ _)); exact BK101.out) hb); have n1_ := mz (below_step (by repeat (first | (with_reducible first | exact HB.out | apply below_alloc | apply pw_below_drewN | apply below_drew1 | refine below_set ?_ GE101.out) | exact HB.out)) hb); have n2_ := mz (hbox); have n3_ := mz ((by rw [hg]; exact (below_size (by repeat (first | (with_reducible first | exact HB.out | apply below_alloc | apply pw_below_drewN | apply below_drew1 | refine below_set ?_ GE101.out) | exact HB.out))) : w.heap.size ≤ gb102)); have n4_ := mz ((by rw [hg]; exact (below_size (by repeat (first | (with_reducible first | exact HB.out | apply below_alloc | apply pw_below_drewN | apply below_drew1 | refine below_set ?_ GE101.out) | exact HB.out))) : w.heap.size ≤ gb102)); have n5_ := mz ((by rw [hg]; exact Nat.ne_of_lt (blk_lt (g := gb101) (o := .cells #[.int .i64 a0_0, .int .i64 a0_1, .int .i64 a0_2, .int .i64 a0_3, .string a0_4, .bool a0_5] 41 (0, 0)) (by (with_reducible repeat (first | refine blk_drewN ?_ _ | refine blk_drew ?_ | refine blk_alloc ?_ _)); exact BK101.out)) : gb101 ≠ gb102)); have n6_ := mz ((by rw [hg]; exact Nat.ne_of_gt (blk_lt (g := gb101) (o := .cells #[.int .i64 a0_0, .int .i64 a0_1, .int .i64 a0_2, .int .i64 a0_3, .string a0_4, .bool a0_5] 41 (0, 0)) (by (with_reducible repeat (first | refine blk_drewN ?_ _ | refine blk_drew ?_ | refine blk_alloc ?_ _)); exact BK101.out)) : gb102 ≠ gb101)); clear BK101; clear HB; have BK101 := n0_; have HB := n1_; have BK102 := n2_; have GW102 := n3_; have GE102 := n4_; have NB101_102 := n5_; have NB102_101 := n6_; clear n0_ n1_ n2_ n3_ n4_ n5_ n6_; clear hb hbox hg; have hnb36 := NB101_102.out; have hnc36 := NB102_101.out; have hcz37_0 : w35.cell? ⟨gb101, 0, none⟩ = some (.int .i64 a0_0) := (blk_cell BK101.out 0).trans rfl; have hcz37_1 : w35.cell? ⟨gb101, 1, none⟩ = some (.int .i64 a0_1) := (blk_cell BK101.out 1).trans rfl; have hcz37_2 : w35.cell? ⟨gb101, 2, none⟩ = some (.int .i64 a0_2) := (blk_cell BK101.out 2).trans rfl; have hcz37_3 : w35.cell? ⟨gb101, 3, none⟩ = some (.int .i64 a0_3) := (blk_cell BK101.out 3).trans rfl; have hcz37_4 : w35.cell? ⟨gb101, 4, none⟩ = some (.string a0_4) := (blk_cell BK101.out 4).trans rfl; have hcz37_5 : w35.cell? ⟨gb101, 5, none⟩ = some (.bool a0_5) := (blk_cell BK101.out 5).trans rfl; have hfz37_0 := blk_frozen BK101.out 0; have hfz37_1 := blk_frozen BK101.out 1; have hfz37_2 := blk_frozen BK101.out 2; have hfz37_3 := blk_frozen BK101.out 3; have hfz37_4 := blk_frozen BK101.out 4; have hfz37_5 := blk_frozen BK101.out 5; have hcz38_0 : w35.cell? ⟨gb102, 0, none⟩ = some (.int .i64 a1_0) := (blk_cell BK102.out 0).trans rfl; have hcz38_1 : w35.cell? ⟨gb102, 1, none⟩ = some (.int .i64 a1_1) := (blk_cell BK102.out 1).trans rfl; have hcz38_2 : w35.cell? ⟨gb102, 2, none⟩ = some (.int .i64 a1_2) := (blk_cell BK102.out 2).trans rfl; have hcz38_3 : w35.cell? ⟨gb102, 3, none⟩ = some (.int .i64 a1_3) := (blk_cell BK102.out 3).trans rfl; have hcz38_4 : w35.cell? ⟨gb102, 4, none⟩ = some (.string a1_4) := (blk_cell BK102.out 4).trans rfl; have hcz38_5 : w35.cell? ⟨gb102, 5, none⟩ = some (.bool a1_5) := (blk_cell BK102.out 5).trans rfl; have hfz38_0 := blk_frozen BK102.out 0; have hfz38_1 := blk_frozen BK102.out 1; have hfz38_2 := blk_frozen BK102.out 2; have hfz38_3 := blk_frozen BK102.out 3; have hfz38_4 := blk_frozen BK102.out 4; have hfz38_5 := blk_frozen BK102.out 5))
      go_ret
      exact ⟨by first | rfl | (simp [errW_none, errW_some] <;> rfl) | (simp [*, errW_none, errW_some] <;> rfl), by repeat (first | (with_reducible first | exact HB.out | apply below_alloc | apply pw_below_drewN | apply below_drew1 | refine below_set ?_ GE101.out | refine below_set ?_ GE102.out) | exact HB.out)⟩
  · rw [if_neg c3] at H
    have c3b0 : (a0_0 == a1_0) = false := beq_eq_false_iff_ne.mpr c3
    have c3b1 : (a0_0 != a1_0) = true := bne_iff_ne.mpr c3
    obtain rfl := Option.some.inj H
    go_enter Try.func37, Try.ntmps37
    go_wp2_with (first | ((with_reducible refine gate_dst (N := 2) rfl ?_); refine box_event ?hg (N := 2) ?hd (cs := #[.int .i64 a0_0, .int .i64 a0_1, .int .i64 a0_2, .int .i64 a0_3, .string a0_4, .bool a0_5]) (t := 41) ?hr ?_; (case hd => rfl); (case hg => rfl); (case hr => first | (go_simp; done) | (go_simp; rfl)); intro gb101 hg w39 hbox hb; have n0_ := mz (below_step (by repeat (first | (with_reducible first | exact HB.out | apply below_alloc | apply pw_below_drewN | apply below_drew1) | exact HB.out)) hb); have n1_ := mz (hbox); have n2_ := mz ((by rw [hg]; exact (below_size (by repeat (first | (with_reducible first | exact HB.out | apply below_alloc | apply pw_below_drewN | apply below_drew1) | exact HB.out))) : w.heap.size ≤ gb101)); have n3_ := mz ((by rw [hg]; exact (below_size (by repeat (first | (with_reducible first | exact HB.out | apply below_alloc | apply pw_below_drewN | apply below_drew1) | exact HB.out))) : w.heap.size ≤ gb101)); clear HB; have HB := n0_; have BK101 := n1_; have GW101 := n2_; have GE101 := n3_; clear n0_ n1_ n2_ n3_; clear hb hbox hg) | ((with_reducible refine gate_dst (N := 3) rfl ?_); refine box_event ?hg (N := 3) ?hd (cs := #[.int .i64 a1_0, .int .i64 a1_1, .int .i64 a1_2, .int .i64 a1_3, .string a1_4, .bool a1_5]) (t := 41) ?hr ?_; (case hd => rfl); (case hg => rfl); (case hr => first | (go_simp; done) | (go_simp; rfl)); intro gb102 hg w40 hbox hb; have n0_ := mz (blk_below (g := gb101) (o := .cells #[.int .i64 a0_0, .int .i64 a0_1, .int .i64 a0_2, .int .i64 a0_3, .string a0_4, .bool a0_5] 41 (0, 0)) (by (with_reducible repeat (first | refine blk_drewN ?_ _ | refine blk_drew ?_ | refine blk_alloc ?_ _)); exact BK101.out) hb); have n1_ := mz (below_step (by repeat (first | (with_reducible first | exact HB.out | apply below_alloc | apply pw_below_drewN | apply below_drew1 | refine below_set ?_ GE101.out) | exact HB.out)) hb); have n2_ := mz (hbox); have n3_ := mz ((by rw [hg]; exact (below_size (by repeat (first | (with_reducible first | exact HB.out | apply below_alloc | apply pw_below_drewN | apply below_drew1 | refine below_set ?_ GE101.out) | exact HB.out))) : w.heap.size ≤ gb102)); have n4_ := mz ((by rw [hg]; exact (below_size (by repeat (first | (with_reducible first | exact HB.out | apply below_alloc | apply pw_below_drewN | apply below_drew1 | refine below_set ?_ GE101.out) | exact HB.out))) : w.heap.size ≤ gb102)); have n5_ := mz ((by rw [hg]; exact Nat.ne_of_lt (blk_lt (g := gb101) (o := .cells #[.int .i64 a0_0, .int .i64 a0_1, .int .i64 a0_2, .int .i64 a0_3, .string a0_4, .bool a0_5] 41 (0, 0)) (by (with_reducible repeat (first | refine blk_drewN ?_ _ | refine blk_drew ?_ | refine blk_alloc ?_ _)); exact BK101.out)) : gb101 ≠ gb102)); have n6_ := mz ((by rw [hg]; exact Nat.ne_of_gt (blk_lt (g := gb101) (o := .cells #[.int .i64 a0_0, .int .i64 a0_1, .int .i64 a0_2, .int .i64 a0_3, .string a0_4, .bool a0_5] 41 (0, 0)) (by (with_reducible repeat (first | refine blk_drewN ?_ _ | refine blk_drew ?_ | refine blk_alloc ?_ _)); exact BK101.out)) : gb102 ≠ gb101)); clear BK101; clear HB; have BK101 := n0_; have HB := n1_; have BK102 := n2_; have GW102 := n3_; have GE102 := n4_; have NB101_102 := n5_; have NB102_101 := n6_; clear n0_ n1_ n2_ n3_ n4_ n5_ n6_; clear hb hbox hg; have hnb41 := NB101_102.out; have hnc41 := NB102_101.out; have hcz42_0 : w40.cell? ⟨gb101, 0, none⟩ = some (.int .i64 a0_0) := (blk_cell BK101.out 0).trans rfl; have hcz42_1 : w40.cell? ⟨gb101, 1, none⟩ = some (.int .i64 a0_1) := (blk_cell BK101.out 1).trans rfl; have hcz42_2 : w40.cell? ⟨gb101, 2, none⟩ = some (.int .i64 a0_2) := (blk_cell BK101.out 2).trans rfl; have hcz42_3 : w40.cell? ⟨gb101, 3, none⟩ = some (.int .i64 a0_3) := (blk_cell BK101.out 3).trans rfl; have hcz42_4 : w40.cell? ⟨gb101, 4, none⟩ = some (.string a0_4) := (blk_cell BK101.out 4).trans rfl; have hcz42_5 : w40.cell? ⟨gb101, 5, none⟩ = some (.bool a0_5) := (blk_cell BK101.out 5).trans rfl; have hfz42_0 := blk_frozen BK101.out 0; have hfz42_1 := blk_frozen BK101.out 1; have hfz42_2 := blk_frozen BK101.out 2; have hfz42_3 := blk_frozen BK101.out 3; have hfz42_4 := blk_frozen BK101.out 4; have hfz42_5 := blk_frozen BK101.out 5; have hcz43_0 : w40.cell? ⟨gb102, 0, none⟩ = some (.int .i64 a1_0) := (blk_cell BK102.out 0).trans rfl; have hcz43_1 : w40.cell? ⟨gb102, 1, none⟩ = some (.int .i64 a1_1) := (blk_cell BK102.out 1).trans rfl; have hcz43_2 : w40.cell? ⟨gb102, 2, none⟩ = some (.int .i64 a1_2) := (blk_cell BK102.out 2).trans rfl; have hcz43_3 : w40.cell? ⟨gb102, 3, none⟩ = some (.int .i64 a1_3) := (blk_cell BK102.out 3).trans rfl; have hcz43_4 : w40.cell? ⟨gb102, 4, none⟩ = some (.string a1_4) := (blk_cell BK102.out 4).trans rfl; have hcz43_5 : w40.cell? ⟨gb102, 5, none⟩ = some (.bool a1_5) := (blk_cell BK102.out 5).trans rfl; have hfz43_0 := blk_frozen BK102.out 0; have hfz43_1 := blk_frozen BK102.out 1; have hfz43_2 := blk_frozen BK102.out 2; have hfz43_3 := blk_frozen BK102.out 3; have hfz43_4 := blk_frozen BK102.out 4; have hfz43_5 := blk_frozen BK102.out 5))
    go_ret
    exact ⟨by first | rfl | (simp [errW_none, errW_some] <;> rfl) | (simp [*, errW_none, errW_some] <;> rfl), by repeat (first | (with_reducible first | exact HB.out | apply below_alloc | apply pw_below_drewN | apply below_drew1 | refine below_set ?_ GE101.out | refine below_set ?_ GE102.out) | exact HB.out)⟩
end
section
attribute [local go_sem] max2_int min2_int max_two min_two max_three min_three max_four min_four
def laws_eqAtomS.l0 : Nat → List (S41) → List (S41) → Int → Option (Bool)
  | 0, _, _, _ => none
  | k + 1, x0, x1, x5 => if x5 < (x0.length : Int) then (if 0 ≤ x5 then (if x5 < (x1.length : Int) then ((laws_eqAtom.f ((rd_T41 x0 x5).f0) ((rd_T41 x0 x5).f1) ((rd_T41 x0 x5).f2) ((rd_T41 x0 x5).f3) ((rd_T41 x0 x5).f4) ((rd_T41 x0 x5).f5) ((rd_T41 x1 x5).f0) ((rd_T41 x1 x5).f1) ((rd_T41 x1 x5).f2) ((rd_T41 x1 x5).f3) ((rd_T41 x1 x5).f4) ((rd_T41 x1 x5).f5)).bind fun t103 => (if t103 = true then (laws_eqAtomS.l0 k x0 x1 (wrap64 (x5 + 1))) else (some false))) else (none)) else (none)) else (some true)
def laws_eqAtomS.f (k : Nat) (l0 : List (S41)) (l1 : List (S41)) : Option (Bool) := if (l0.length : Int) = (l1.length : Int) then (laws_eqAtomS.l0 k l0 l1 0) else (some false)
def laws_eqAtomS.T6 : Bool × List (List Nat × List Nat) := (true, [([], []), ([], []), ([0, 1], [0, 1]), ([2], [2]), ([], []), ([], []), ([4, 5], [4, 5]), ([6], [6]), ([3, 7], [3, 7]), ([8], [8])])
def laws_eqAtomS.B6 : List Nat := [0, 0, 3, 7, 0, 0, 48, 112, 255, 511]
theorem laws_eqAtomS.tab6 : rtab .any (opsOf Try.f21 6) = laws_eqAtomS.T6 := by kernel_rfl
theorem laws_eqAtomS.bits6 : waitsOk laws_eqAtomS.T6.2 laws_eqAtomS.B6 = true := by kernel_rfl
set_option maxHeartbeats 8000000 in
set_option maxRecDepth 100000 in
theorem laws_eqAtomS.calls (k : Nat) (A0 : Option Addr) (c0 : Nat) (l0 : List (S41)) (A1 : Option Addr) (c1 : Nat) (l1 : List (S41)) (r : Bool) (w : World) (hr0 : Kd.C k41 w A0 l0.length l0) (hc0 : l0.length ≤ c0) (hr1 : Kd.C k41 w A1 l1.length l1) (hc1 : l1.length ≤ c1) (h : laws_eqAtomS.f k l0 l1 = some r) :
    Calls Try.prog 21 #[.slice A0 l0.length c0, .slice A1 l1.length c1] w fun e w' => e = .returned (.bool r) ∧ Below w.heap.size w w' := by
  have hu41 := Try.underlying41
  have HR0 := mz hr0
  have HC0 := mz hc0
  clear hr0 hc0
  have HR1 := mz hr1
  have HC1 := mz hc1
  clear hr1 hc1
  have HB := mz (Below.refl w.heap.size w)
  have H : (if (l0.length : Int) = (l1.length : Int) then (laws_eqAtomS.l0 k l0 l1 0) else (some false)) = some r := h
  clear h
  by_cases c3 : (l0.length : Int) = (l1.length : Int)
  · rw [if_pos c3] at H
    have c3b0 : ((l0.length : Int) == (l1.length : Int)) = true := beq_iff_eq.mpr c3
    have c3b1 : ((l0.length : Int) != (l1.length : Int)) = false := bne_eq_false_iff_eq.mpr c3
    have c3b2 : (l0.length == l1.length) = true := by first | simpa using c3 | (simp at c3 ⊢; omega)
    clear c3
    have H' := mz H
    clear H
    go_enter Try.func21, Try.ntmps21
    go_wp2
    go_loopg [5] k (fun kq v5 w' => ∃ (x5_1 : Int), v5 = .int .i64 x5_1 ∧ Aside0 (laws_eqAtomS.l0 kq l0 l1 x5_1 = some r) ∧ Aside0 (kq ≤ k) ∧ Aside0 (Below w.heap.size w w'))
    case atStart => exact ⟨(0), (by first | rfl | (simp; done) | (simp [*]; done)), H', ⟨Nat.le_refl _⟩, ⟨by repeat (first | (with_reducible first | exact HB.out | apply below_alloc | apply pw_below_drewN | apply below_drew1) | exact HB.out)⟩⟩
    case round =>
      clear H'
      try clear c1
      try clear c2
      try clear p2
      try clear c3
      try clear c3b0
      try clear c3b1
      try clear c3b2
      obtain ⟨x5_1, rfl, HA, HK1, HB⟩ := hrel
      cases gk with
      | zero => exact absurd HA.out (by simp [laws_eqAtomS.l0])
      | succ k1 =>
        have H := HA.out
        clear HA
        simp only [laws_eqAtomS.l0] at H
        by_cases c4 : x5_1 < (l0.length : Int)
        · rw [if_pos c4] at H
          have c4b0 : decide (x5_1 < (l0.length : Int)) = true := decide_eq_true c4
          clear c4
          by_cases c5 : 0 ≤ x5_1
          · rw [if_pos c5] at H
            have c5b0 : decide (0 ≤ x5_1) = true := decide_eq_true c5
            clear c5
            by_cases c6 : x5_1 < (l1.length : Int)
            · rw [if_pos c6] at H
              have c6b0 : decide (x5_1 < (l1.length : Int)) = true := decide_eq_true c6
              clear c6
              replace H := be0_ H
              obtain ⟨t103, A70, H⟩ := H
              replace H : (if t103 = true then (laws_eqAtomS.l0 k1 l0 l1 (wrap64 (x5_1 + 1))) else (some false)) = some r := H
              have A7 := mz A70
              clear A70
              by_cases c8 : t103 = true
              · subst c8
                have H1 : (laws_eqAtomS.l0 k1 l0 l1 (wrap64 (x5_1 + 1))) = some r := by rw [if_pos rfl] at H; exact H
                clear H
                have H := H1
                clear H1
                have H' := mz H
                clear H
                try go_wp2
                have n0_ := mz (below_drew1 HB.out)
                clear HB
                have HB := n0_
                clear n0_
                have p101 : 0 ≤ (x5_1 : Int) := of_decide_eq_true (by first | (with_reducible assumption) | assumption)
                have q101 : x5_1 < (l0.length : Int) := of_decide_eq_true (by first | (with_reducible assumption) | assumption)
                obtain ⟨ad101, e101, hx101_0, hx101_1, hx101_2, hx101_3, hx101_4, hx101_5⟩ := at_T41 HR0.out x5_1 p101 q101
                have hw101_5 := hx101_5
                have hw101_4 := hx101_4
                have hw101_3 := hx101_3
                have hw101_2 := hx101_2
                have hw101_1 := hx101_1
                have hw101_0 := hx101_0
                cases e101
                replace hx101_0 := bc_ HB.out hx101_0
                replace hx101_1 := bc_ HB.out hx101_1
                replace hx101_2 := bc_ HB.out hx101_2
                replace hx101_3 := bc_ HB.out hx101_3
                replace hx101_4 := bc_ HB.out hx101_4
                replace hx101_5 := bc_ HB.out hx101_5
                replace p101 := eq_true p101
                replace q101 := eq_true q101
                have p102 : 0 ≤ (x5_1 : Int) := of_decide_eq_true (by first | (with_reducible assumption) | assumption)
                have q102 : x5_1 < (l1.length : Int) := of_decide_eq_true (by first | (with_reducible assumption) | assumption)
                obtain ⟨ad102, e102, hx102_0, hx102_1, hx102_2, hx102_3, hx102_4, hx102_5⟩ := at_T41 HR1.out x5_1 p102 q102
                have hw102_5 := hx102_5
                have hw102_4 := hx102_4
                have hw102_3 := hx102_3
                have hw102_2 := hx102_2
                have hw102_1 := hx102_1
                have hw102_0 := hx102_0
                cases e102
                replace hx102_0 := bc_ HB.out hx102_0
                replace hx102_1 := bc_ HB.out hx102_1
                replace hx102_2 := bc_ HB.out hx102_2
                replace hx102_3 := bc_ HB.out hx102_3
                replace hx102_4 := bc_ HB.out hx102_4
                replace hx102_5 := bc_ HB.out hx102_5
                replace p102 := eq_true p102
                replace q102 := eq_true q102
                refine start_ (n := 10) (S := fun w' => w'.cell? (ad101.add ((x5_1).toNat * 6)) = some (.int .i64 ((rd_T41 l0 x5_1).f0)) ∧ w'.cell? ⟨(ad101.add ((x5_1).toNat * 6)).block, (ad101.add ((x5_1).toNat * 6)).off + 1, none⟩ = some (.int .i64 ((rd_T41 l0 x5_1).f1)) ∧ w'.cell? ⟨(ad101.add ((x5_1).toNat * 6)).block, (ad101.add ((x5_1).toNat * 6)).off + 2, none⟩ = some (.int .i64 ((rd_T41 l0 x5_1).f2)) ∧ w'.cell? ⟨(ad101.add ((x5_1).toNat * 6)).block, (ad101.add ((x5_1).toNat * 6)).off + 3, none⟩ = some (.int .i64 ((rd_T41 l0 x5_1).f3)) ∧ w'.cell? ⟨(ad101.add ((x5_1).toNat * 6)).block, (ad101.add ((x5_1).toNat * 6)).off + 4, none⟩ = some (.string ((rd_T41 l0 x5_1).f4)) ∧ w'.cell? ⟨(ad101.add ((x5_1).toNat * 6)).block, (ad101.add ((x5_1).toNat * 6)).off + 5, none⟩ = some (.bool ((rd_T41 l0 x5_1).f5)) ∧ w'.cell? (ad102.add ((x5_1).toNat * 6)) = some (.int .i64 ((rd_T41 l1 x5_1).f0)) ∧ w'.cell? ⟨(ad102.add ((x5_1).toNat * 6)).block, (ad102.add ((x5_1).toNat * 6)).off + 1, none⟩ = some (.int .i64 ((rd_T41 l1 x5_1).f1)) ∧ w'.cell? ⟨(ad102.add ((x5_1).toNat * 6)).block, (ad102.add ((x5_1).toNat * 6)).off + 2, none⟩ = some (.int .i64 ((rd_T41 l1 x5_1).f2)) ∧ w'.cell? ⟨(ad102.add ((x5_1).toNat * 6)).block, (ad102.add ((x5_1).toNat * 6)).off + 3, none⟩ = some (.int .i64 ((rd_T41 l1 x5_1).f3)) ∧ w'.cell? ⟨(ad102.add ((x5_1).toNat * 6)).block, (ad102.add ((x5_1).toNat * 6)).off + 4, none⟩ = some (.string ((rd_T41 l1 x5_1).f4)) ∧ w'.cell? ⟨(ad102.add ((x5_1).toNat * 6)).block, (ad102.add ((x5_1).toNat * 6)).off + 5, none⟩ = some (.bool ((rd_T41 l1 x5_1).f5))) (ds := []) #[false, false, false, false, false, false, false, false, false, false] (by kernel_rfl) rfl rfl ⟨(bc_ HB.out hw101_0 :), (bc_ HB.out hw101_1 :), (bc_ HB.out hw101_2 :), (bc_ HB.out hw101_3 :), (bc_ HB.out hw101_4 :), (bc_ HB.out hw101_5 :), (bc_ HB.out hw102_0 :), (bc_ HB.out hw102_1 :), (bc_ HB.out hw102_2 :), (bc_ HB.out hw102_3 :), (bc_ HB.out hw102_4 :), (bc_ HB.out hw102_5 :)⟩ (fun hHeld => ?_); refine with_tabW laws_eqAtomS.tab6 laws_eqAtomS.bits6 (fun HT_ HW_ => ?_)
                generalize wr.drew = w9 at HB hx101_0 hx101_1 hx101_2 hx101_3 hx101_4 hx101_5 hx102_0 hx102_1 hx102_2 hx102_3 hx102_4 hx102_5 hHeld ⊢
                refine pure_ (i := 0) (N := some 17) (v := ?_) (a' := ?_) #[true, false, false, false, false, false, false, false, false, false] rfl rfl (any_of HT_.out (by kernel_rfl)) (fun _ _ _ h => h) (Or.inl ⟨by rfl, ?_⟩) ?_ ?_
                rotate_left
                · intro w'
                  go_simp
                  with_reducible rfl
                rotate_left
                · simp only [Act.put, List.setIfInBounds_toArray, List.set_cons_zero, List.set_cons_succ, i64_w, i32_w]
                  rfl
                refine pure_ (i := 1) (N := some 18) (v := ?_) (a' := ?_) #[true, true, false, false, false, false, false, false, false, false] rfl rfl (any_of HT_.out (by kernel_rfl)) (fun _ _ _ h => h) (Or.inl ⟨by rfl, ?_⟩) ?_ ?_
                rotate_left
                · intro w'
                  go_simp
                  with_reducible rfl
                rotate_left
                · simp only [Act.put, List.setIfInBounds_toArray, List.set_cons_zero, List.set_cons_succ, i64_w, i32_w]
                  rfl
                refine pure_ (i := 2) (N := some 19) (v := ?_) (a' := ?_) #[true, true, true, false, false, false, false, false, false, false] rfl rfl (any_of HT_.out (by kernel_rfl)) (fun _ _ _ h => h) (Or.inl ⟨by rfl, ?_⟩) ?_ ?_
                rotate_left
                · intro w'
                  go_simp
                  with_reducible rfl
                rotate_left
                · simp only [Act.put, List.setIfInBounds_toArray, List.set_cons_zero, List.set_cons_succ, i64_w, i32_w]
                  rfl
                refine pure_ (i := 4) (N := some 21) (v := ?_) (a' := ?_) #[true, true, true, false, true, false, false, false, false, false] rfl rfl (any_of HT_.out (by kernel_rfl)) (fun _ _ _ h => h) (Or.inl ⟨by rfl, ?_⟩) ?_ ?_
                rotate_left
                · intro w'
                  go_simp
                  with_reducible rfl
                rotate_left
                · simp only [Act.put, List.setIfInBounds_toArray, List.set_cons_zero, List.set_cons_succ, i64_w, i32_w]
                  rfl
                refine pure_ (i := 5) (N := some 22) (v := ?_) (a' := ?_) #[true, true, true, false, true, true, false, false, false, false] rfl rfl (any_of HT_.out (by kernel_rfl)) (fun _ _ _ h => h) (Or.inl ⟨by rfl, ?_⟩) ?_ ?_
                rotate_left
                · intro w'
                  go_simp
                  with_reducible rfl
                rotate_left
                · simp only [Act.put, List.setIfInBounds_toArray, List.set_cons_zero, List.set_cons_succ, i64_w, i32_w]
                  rfl
                refine pure_ (i := 6) (N := some 23) (v := ?_) (a' := ?_) #[true, true, true, false, true, true, true, false, false, false] rfl rfl (any_of HT_.out (by kernel_rfl)) (fun _ _ _ h => h) (Or.inl ⟨by rfl, ?_⟩) ?_ ?_
                rotate_left
                · intro w'
                  go_simp
                  with_reducible rfl
                rotate_left
                · simp only [Act.put, List.setIfInBounds_toArray, List.set_cons_zero, List.set_cons_succ, i64_w, i32_w]
                  rfl
                refine take_ (i := 3) (N := some 20) (v := ?_) (a' := ?_) #[true, true, true, true, true, true, true, false, false, false] rfl rfl (take_ofW HT_.out HW_.out (by kernel_rfl)) (fun _ _ _ h => h) (Or.inl ⟨by rfl, ?_⟩) hHeld ?_ ?_
                rotate_left
                · rintro w' ⟨s0, s1, s2, s3, s4, s5, s6, s7, s8, s9, s10, s11⟩
                  go_simp
                  with_reducible rfl
                rotate_left
                · simp only [Act.put, List.setIfInBounds_toArray, List.set_cons_zero, List.set_cons_succ, i64_w, i32_w]
                  rfl
                refine take_ (i := 7) (N := some 24) (v := ?_) (a' := ?_) #[true, true, true, true, true, true, true, true, false, false] rfl rfl (take_ofW HT_.out HW_.out (by kernel_rfl)) (fun _ _ _ h => h) (Or.inl ⟨by rfl, ?_⟩) hHeld ?_ ?_
                rotate_left
                · rintro w' ⟨s0, s1, s2, s3, s4, s5, s6, s7, s8, s9, s10, s11⟩
                  go_simp
                  with_reducible rfl
                rotate_left
                · simp only [Act.put, List.setIfInBounds_toArray, List.set_cons_zero, List.set_cons_succ, i64_w, i32_w]
                  rfl
                refine one_ (i := 8) (N := some 25) #[true, true, true, true, true, true, true, true, true, false] rfl rfl (one_of HT_.out (by kernel_rfl)) (by decide) (fun K hK => ?_)
                refine goes_ Try.func37 (by kernel_rfl) rfl #[.agg #[.int .i64 ((rd_T41 l0 x5_1).f0), .int .i64 ((rd_T41 l0 x5_1).f1), .int .i64 ((rd_T41 l0 x5_1).f2), .int .i64 ((rd_T41 l0 x5_1).f3), .string ((rd_T41 l0 x5_1).f4), .bool ((rd_T41 l0 x5_1).f5)], .agg #[.int .i64 ((rd_T41 l1 x5_1).f0), .int .i64 ((rd_T41 l1 x5_1).f1), .int .i64 ((rd_T41 l1 x5_1).f2), .int .i64 ((rd_T41 l1 x5_1).f3), .string ((rd_T41 l1 x5_1).f4), .bool ((rd_T41 l1 x5_1).f5)]] (by rfl) rfl rfl (by (try simp only [List.map_toArray, List.map_cons, List.map_nil]); first | done | rfl | (simp only [List.length_drop, List.length_take]; rfl)) ?_
                with_reducible refine (laws_eqAtom.calls ((rd_T41 l0 x5_1).f0) ((rd_T41 l0 x5_1).f1) ((rd_T41 l0 x5_1).f2) ((rd_T41 l0 x5_1).f3) ((rd_T41 l0 x5_1).f4) ((rd_T41 l0 x5_1).f5) ((rd_T41 l1 x5_1).f0) ((rd_T41 l1 x5_1).f1) ((rd_T41 l1 x5_1).f2) ((rd_T41 l1 x5_1).f3) ((rd_T41 l1 x5_1).f4) ((rd_T41 l1 x5_1).f5) true _ A7.out).mono ?_
                rintro e w10 ⟨rfl, hb⟩
                refine ⟨_, rfl, ?_⟩
                have n0_ := mz (below_step (by repeat (first | (with_reducible first | exact HB.out | apply below_alloc | apply pw_below_drewN | apply below_drew1) | exact HB.out)) hb)
                clear HB
                have HB := n0_
                clear n0_
                (try clear hb)
                (try clear hb2)
                (try clear hk)
                (try clear hi)
                refine hK.out _ _ ⟨(bc_ HB.out hw101_0 :), (bc_ HB.out hw101_1 :), (bc_ HB.out hw101_2 :), (bc_ HB.out hw101_3 :), (bc_ HB.out hw101_4 :), (bc_ HB.out hw101_5 :), (bc_ HB.out hw102_0 :), (bc_ HB.out hw102_1 :), (bc_ HB.out hw102_2 :), (bc_ HB.out hw102_3 :), (bc_ HB.out hw102_4 :), (bc_ HB.out hw102_5 :)⟩ (fun hHeld => ?_)
                clear hK K
                refine norm_ (a' := ?_) ?_ ?_
                rotate_left
                · show Act.put _ (some 25) _ = _
                  simp only [Act.put, List.setIfInBounds_toArray, List.set_cons_zero, List.set_cons_succ, i64_w, i32_w]
                  rfl
                refine pure_ (i := 9) (N := some 26) (v := ?_) (a' := ?_) #[true, true, true, true, true, true, true, true, true, true] rfl rfl (any_of HT_.out (by kernel_rfl)) (fun _ _ _ h => h) (Or.inl ⟨by rfl, ?_⟩) ?_ ?_
                rotate_left
                · intro w'
                  go_simp
                  with_reducible rfl
                rotate_left
                · simp only [Act.put, List.setIfInBounds_toArray, List.set_cons_zero, List.set_cons_succ, i64_w, i32_w]
                  rfl
                refine done_ (done_of HT_.out (by kernel_rfl)) ?_
                try go_wp2
                go_roundg k1
                case measure => have := HK1.out; omega
                case rel => exact ⟨(wrap64 (x5_1 + 1)), (by first | rfl | (simp; done) | (simp [*]; done)), H', ⟨by have := HK1.out; omega⟩, ⟨by repeat (first | (with_reducible first | exact HB.out | apply below_alloc | apply pw_below_drewN | apply below_drew1) | exact HB.out)⟩⟩
              · replace c8 := Bool.eq_false_iff.mpr c8
                subst c8
                have H1 : (some false) = some r := by rw [if_neg (show ¬ (false = true) by decide)] at H; exact H
                clear H
                have H := H1
                clear H1
                obtain rfl := Option.some.inj H
                try go_wp2
                have n0_ := mz (below_drew1 HB.out)
                clear HB
                have HB := n0_
                clear n0_
                have p101 : 0 ≤ (x5_1 : Int) := of_decide_eq_true (by first | (with_reducible assumption) | assumption)
                have q101 : x5_1 < (l0.length : Int) := of_decide_eq_true (by first | (with_reducible assumption) | assumption)
                obtain ⟨ad101, e101, hx101_0, hx101_1, hx101_2, hx101_3, hx101_4, hx101_5⟩ := at_T41 HR0.out x5_1 p101 q101
                have hw101_5 := hx101_5
                have hw101_4 := hx101_4
                have hw101_3 := hx101_3
                have hw101_2 := hx101_2
                have hw101_1 := hx101_1
                have hw101_0 := hx101_0
                cases e101
                replace hx101_0 := bc_ HB.out hx101_0
                replace hx101_1 := bc_ HB.out hx101_1
                replace hx101_2 := bc_ HB.out hx101_2
                replace hx101_3 := bc_ HB.out hx101_3
                replace hx101_4 := bc_ HB.out hx101_4
                replace hx101_5 := bc_ HB.out hx101_5
                replace p101 := eq_true p101
                replace q101 := eq_true q101
                have p102 : 0 ≤ (x5_1 : Int) := of_decide_eq_true (by first | (with_reducible assumption) | assumption)
                have q102 : x5_1 < (l1.length : Int) := of_decide_eq_true (by first | (with_reducible assumption) | assumption)
                obtain ⟨ad102, e102, hx102_0, hx102_1, hx102_2, hx102_3, hx102_4, hx102_5⟩ := at_T41 HR1.out x5_1 p102 q102
                have hw102_5 := hx102_5
                have hw102_4 := hx102_4
                have hw102_3 := hx102_3
                have hw102_2 := hx102_2
                have hw102_1 := hx102_1
                have hw102_0 := hx102_0
                cases e102
                replace hx102_0 := bc_ HB.out hx102_0
                replace hx102_1 := bc_ HB.out hx102_1
                replace hx102_2 := bc_ HB.out hx102_2
                replace hx102_3 := bc_ HB.out hx102_3
                replace hx102_4 := bc_ HB.out hx102_4
                replace hx102_5 := bc_ HB.out hx102_5
                replace p102 := eq_true p102
                replace q102 := eq_true q102
                refine start_ (n := 10) (S := fun w' => w'.cell? (ad101.add ((x5_1).toNat * 6)) = some (.int .i64 ((rd_T41 l0 x5_1).f0)) ∧ w'.cell? ⟨(ad101.add ((x5_1).toNat * 6)).block, (ad101.add ((x5_1).toNat * 6)).off + 1, none⟩ = some (.int .i64 ((rd_T41 l0 x5_1).f1)) ∧ w'.cell? ⟨(ad101.add ((x5_1).toNat * 6)).block, (ad101.add ((x5_1).toNat * 6)).off + 2, none⟩ = some (.int .i64 ((rd_T41 l0 x5_1).f2)) ∧ w'.cell? ⟨(ad101.add ((x5_1).toNat * 6)).block, (ad101.add ((x5_1).toNat * 6)).off + 3, none⟩ = some (.int .i64 ((rd_T41 l0 x5_1).f3)) ∧ w'.cell? ⟨(ad101.add ((x5_1).toNat * 6)).block, (ad101.add ((x5_1).toNat * 6)).off + 4, none⟩ = some (.string ((rd_T41 l0 x5_1).f4)) ∧ w'.cell? ⟨(ad101.add ((x5_1).toNat * 6)).block, (ad101.add ((x5_1).toNat * 6)).off + 5, none⟩ = some (.bool ((rd_T41 l0 x5_1).f5)) ∧ w'.cell? (ad102.add ((x5_1).toNat * 6)) = some (.int .i64 ((rd_T41 l1 x5_1).f0)) ∧ w'.cell? ⟨(ad102.add ((x5_1).toNat * 6)).block, (ad102.add ((x5_1).toNat * 6)).off + 1, none⟩ = some (.int .i64 ((rd_T41 l1 x5_1).f1)) ∧ w'.cell? ⟨(ad102.add ((x5_1).toNat * 6)).block, (ad102.add ((x5_1).toNat * 6)).off + 2, none⟩ = some (.int .i64 ((rd_T41 l1 x5_1).f2)) ∧ w'.cell? ⟨(ad102.add ((x5_1).toNat * 6)).block, (ad102.add ((x5_1).toNat * 6)).off + 3, none⟩ = some (.int .i64 ((rd_T41 l1 x5_1).f3)) ∧ w'.cell? ⟨(ad102.add ((x5_1).toNat * 6)).block, (ad102.add ((x5_1).toNat * 6)).off + 4, none⟩ = some (.string ((rd_T41 l1 x5_1).f4)) ∧ w'.cell? ⟨(ad102.add ((x5_1).toNat * 6)).block, (ad102.add ((x5_1).toNat * 6)).off + 5, none⟩ = some (.bool ((rd_T41 l1 x5_1).f5))) (ds := []) #[false, false, false, false, false, false, false, false, false, false] (by kernel_rfl) rfl rfl ⟨(bc_ HB.out hw101_0 :), (bc_ HB.out hw101_1 :), (bc_ HB.out hw101_2 :), (bc_ HB.out hw101_3 :), (bc_ HB.out hw101_4 :), (bc_ HB.out hw101_5 :), (bc_ HB.out hw102_0 :), (bc_ HB.out hw102_1 :), (bc_ HB.out hw102_2 :), (bc_ HB.out hw102_3 :), (bc_ HB.out hw102_4 :), (bc_ HB.out hw102_5 :)⟩ (fun hHeld => ?_); refine with_tabW laws_eqAtomS.tab6 laws_eqAtomS.bits6 (fun HT_ HW_ => ?_)
                generalize wr.drew = w11 at HB hx101_0 hx101_1 hx101_2 hx101_3 hx101_4 hx101_5 hx102_0 hx102_1 hx102_2 hx102_3 hx102_4 hx102_5 hHeld ⊢
                refine pure_ (i := 0) (N := some 17) (v := ?_) (a' := ?_) #[true, false, false, false, false, false, false, false, false, false] rfl rfl (any_of HT_.out (by kernel_rfl)) (fun _ _ _ h => h) (Or.inl ⟨by rfl, ?_⟩) ?_ ?_
                rotate_left
                · intro w'
                  go_simp
                  with_reducible rfl
                rotate_left
                · simp only [Act.put, List.setIfInBounds_toArray, List.set_cons_zero, List.set_cons_succ, i64_w, i32_w]
                  rfl
                refine pure_ (i := 1) (N := some 18) (v := ?_) (a' := ?_) #[true, true, false, false, false, false, false, false, false, false] rfl rfl (any_of HT_.out (by kernel_rfl)) (fun _ _ _ h => h) (Or.inl ⟨by rfl, ?_⟩) ?_ ?_
                rotate_left
                · intro w'
                  go_simp
                  with_reducible rfl
                rotate_left
                · simp only [Act.put, List.setIfInBounds_toArray, List.set_cons_zero, List.set_cons_succ, i64_w, i32_w]
                  rfl
                refine pure_ (i := 2) (N := some 19) (v := ?_) (a' := ?_) #[true, true, true, false, false, false, false, false, false, false] rfl rfl (any_of HT_.out (by kernel_rfl)) (fun _ _ _ h => h) (Or.inl ⟨by rfl, ?_⟩) ?_ ?_
                rotate_left
                · intro w'
                  go_simp
                  with_reducible rfl
                rotate_left
                · simp only [Act.put, List.setIfInBounds_toArray, List.set_cons_zero, List.set_cons_succ, i64_w, i32_w]
                  rfl
                refine pure_ (i := 4) (N := some 21) (v := ?_) (a' := ?_) #[true, true, true, false, true, false, false, false, false, false] rfl rfl (any_of HT_.out (by kernel_rfl)) (fun _ _ _ h => h) (Or.inl ⟨by rfl, ?_⟩) ?_ ?_
                rotate_left
                · intro w'
                  go_simp
                  with_reducible rfl
                rotate_left
                · simp only [Act.put, List.setIfInBounds_toArray, List.set_cons_zero, List.set_cons_succ, i64_w, i32_w]
                  rfl
                refine pure_ (i := 5) (N := some 22) (v := ?_) (a' := ?_) #[true, true, true, false, true, true, false, false, false, false] rfl rfl (any_of HT_.out (by kernel_rfl)) (fun _ _ _ h => h) (Or.inl ⟨by rfl, ?_⟩) ?_ ?_
                rotate_left
                · intro w'
                  go_simp
                  with_reducible rfl
                rotate_left
                · simp only [Act.put, List.setIfInBounds_toArray, List.set_cons_zero, List.set_cons_succ, i64_w, i32_w]
                  rfl
                refine pure_ (i := 6) (N := some 23) (v := ?_) (a' := ?_) #[true, true, true, false, true, true, true, false, false, false] rfl rfl (any_of HT_.out (by kernel_rfl)) (fun _ _ _ h => h) (Or.inl ⟨by rfl, ?_⟩) ?_ ?_
                rotate_left
                · intro w'
                  go_simp
                  with_reducible rfl
                rotate_left
                · simp only [Act.put, List.setIfInBounds_toArray, List.set_cons_zero, List.set_cons_succ, i64_w, i32_w]
                  rfl
                refine take_ (i := 3) (N := some 20) (v := ?_) (a' := ?_) #[true, true, true, true, true, true, true, false, false, false] rfl rfl (take_ofW HT_.out HW_.out (by kernel_rfl)) (fun _ _ _ h => h) (Or.inl ⟨by rfl, ?_⟩) hHeld ?_ ?_
                rotate_left
                · rintro w' ⟨s0, s1, s2, s3, s4, s5, s6, s7, s8, s9, s10, s11⟩
                  go_simp
                  with_reducible rfl
                rotate_left
                · simp only [Act.put, List.setIfInBounds_toArray, List.set_cons_zero, List.set_cons_succ, i64_w, i32_w]
                  rfl
                refine take_ (i := 7) (N := some 24) (v := ?_) (a' := ?_) #[true, true, true, true, true, true, true, true, false, false] rfl rfl (take_ofW HT_.out HW_.out (by kernel_rfl)) (fun _ _ _ h => h) (Or.inl ⟨by rfl, ?_⟩) hHeld ?_ ?_
                rotate_left
                · rintro w' ⟨s0, s1, s2, s3, s4, s5, s6, s7, s8, s9, s10, s11⟩
                  go_simp
                  with_reducible rfl
                rotate_left
                · simp only [Act.put, List.setIfInBounds_toArray, List.set_cons_zero, List.set_cons_succ, i64_w, i32_w]
                  rfl
                refine one_ (i := 8) (N := some 25) #[true, true, true, true, true, true, true, true, true, false] rfl rfl (one_of HT_.out (by kernel_rfl)) (by decide) (fun K hK => ?_)
                refine goes_ Try.func37 (by kernel_rfl) rfl #[.agg #[.int .i64 ((rd_T41 l0 x5_1).f0), .int .i64 ((rd_T41 l0 x5_1).f1), .int .i64 ((rd_T41 l0 x5_1).f2), .int .i64 ((rd_T41 l0 x5_1).f3), .string ((rd_T41 l0 x5_1).f4), .bool ((rd_T41 l0 x5_1).f5)], .agg #[.int .i64 ((rd_T41 l1 x5_1).f0), .int .i64 ((rd_T41 l1 x5_1).f1), .int .i64 ((rd_T41 l1 x5_1).f2), .int .i64 ((rd_T41 l1 x5_1).f3), .string ((rd_T41 l1 x5_1).f4), .bool ((rd_T41 l1 x5_1).f5)]] (by rfl) rfl rfl (by (try simp only [List.map_toArray, List.map_cons, List.map_nil]); first | done | rfl | (simp only [List.length_drop, List.length_take]; rfl)) ?_
                with_reducible refine (laws_eqAtom.calls ((rd_T41 l0 x5_1).f0) ((rd_T41 l0 x5_1).f1) ((rd_T41 l0 x5_1).f2) ((rd_T41 l0 x5_1).f3) ((rd_T41 l0 x5_1).f4) ((rd_T41 l0 x5_1).f5) ((rd_T41 l1 x5_1).f0) ((rd_T41 l1 x5_1).f1) ((rd_T41 l1 x5_1).f2) ((rd_T41 l1 x5_1).f3) ((rd_T41 l1 x5_1).f4) ((rd_T41 l1 x5_1).f5) false _ A7.out).mono ?_
                rintro e w12 ⟨rfl, hb⟩
                refine ⟨_, rfl, ?_⟩
                have n0_ := mz (below_step (by repeat (first | (with_reducible first | exact HB.out | apply below_alloc | apply pw_below_drewN | apply below_drew1) | exact HB.out)) hb)
                clear HB
                have HB := n0_
                clear n0_
                (try clear hb)
                (try clear hb2)
                (try clear hk)
                (try clear hi)
                refine hK.out _ _ ⟨(bc_ HB.out hw101_0 :), (bc_ HB.out hw101_1 :), (bc_ HB.out hw101_2 :), (bc_ HB.out hw101_3 :), (bc_ HB.out hw101_4 :), (bc_ HB.out hw101_5 :), (bc_ HB.out hw102_0 :), (bc_ HB.out hw102_1 :), (bc_ HB.out hw102_2 :), (bc_ HB.out hw102_3 :), (bc_ HB.out hw102_4 :), (bc_ HB.out hw102_5 :)⟩ (fun hHeld => ?_)
                clear hK K
                refine norm_ (a' := ?_) ?_ ?_
                rotate_left
                · show Act.put _ (some 25) _ = _
                  simp only [Act.put, List.setIfInBounds_toArray, List.set_cons_zero, List.set_cons_succ, i64_w, i32_w]
                  rfl
                refine pure_ (i := 9) (N := some 26) (v := ?_) (a' := ?_) #[true, true, true, true, true, true, true, true, true, true] rfl rfl (any_of HT_.out (by kernel_rfl)) (fun _ _ _ h => h) (Or.inl ⟨by rfl, ?_⟩) ?_ ?_
                rotate_left
                · intro w'
                  go_simp
                  with_reducible rfl
                rotate_left
                · simp only [Act.put, List.setIfInBounds_toArray, List.set_cons_zero, List.set_cons_succ, i64_w, i32_w]
                  rfl
                refine done_ (done_of HT_.out (by kernel_rfl)) ?_
                try go_wp2
                go_ret
                exact ⟨by first | rfl | (simp [errW_none, errW_some] <;> rfl) | (simp [*, errW_none, errW_some] <;> rfl), by repeat (first | (with_reducible first | exact HB.out | apply below_alloc | apply pw_below_drewN | apply below_drew1) | exact HB.out)⟩
            · rw [if_neg c6] at H
              exact absurd H (by simp)
          · rw [if_neg c5] at H
            exact absurd H (by simp)
        · rw [if_neg c4] at H
          have c4b0 : decide (x5_1 < (l0.length : Int)) = false := decide_eq_false c4
          clear c4
          obtain rfl := Option.some.inj H
          go_wp2
          go_ret
          exact ⟨by first | rfl | (simp [errW_none, errW_some] <;> rfl) | (simp [*, errW_none, errW_some] <;> rfl), by repeat (first | (with_reducible first | exact HB.out | apply below_alloc | apply pw_below_drewN | apply below_drew1) | exact HB.out)⟩
  · rw [if_neg c3] at H
    have c3b0 : ((l0.length : Int) == (l1.length : Int)) = false := beq_eq_false_iff_ne.mpr c3
    have c3b1 : ((l0.length : Int) != (l1.length : Int)) = true := bne_iff_ne.mpr c3
    have c3b2 : (l0.length == l1.length) = false := by first | simpa using c3 | (simp at c3 ⊢; omega)
    obtain rfl := Option.some.inj H
    go_enter Try.func21, Try.ntmps21
    go_wp2
    go_ret
    exact ⟨by first | rfl | (simp [errW_none, errW_some] <;> rfl) | (simp [*, errW_none, errW_some] <;> rfl), by repeat (first | (with_reducible first | exact HB.out | apply below_alloc | apply pw_below_drewN | apply below_drew1) | exact HB.out)⟩
end
section
attribute [local go_sem] max2_int min2_int max_two min_two max_three min_three max_four min_four
def laws_eqSeq.f (k : Nat) (l0_0 : List (S41)) (l1_0 : List (S41)) : Option (Bool) := (laws_eqAtomS.f k l0_0 l1_0).bind fun t103 => (if t103 = true then (some true) else (some false))
set_option maxHeartbeats 8000000 in
set_option maxRecDepth 100000 in
theorem laws_eqSeq.calls (k : Nat) (A0_0 : Option Addr) (c0_0 : Nat) (l0_0 : List (S41)) (A1_0 : Option Addr) (c1_0 : Nat) (l1_0 : List (S41)) (r : Bool) (w : World) (hr0_0 : Kd.C k41 w A0_0 l0_0.length l0_0) (hc0_0 : l0_0.length ≤ c0_0) (hr1_0 : Kd.C k41 w A1_0 l1_0.length l1_0) (hc1_0 : l1_0.length ≤ c1_0) (h : laws_eqSeq.f k l0_0 l1_0 = some r) :
    Calls Try.prog 8 #[.agg #[.slice A0_0 l0_0.length c0_0], .agg #[.slice A1_0 l1_0.length c1_0]] w fun e w' => e = .returned (.bool r) ∧ Below w.heap.size w w' := by
  have hu28 := Try.underlying28
  have HR0_0 := mz hr0_0
  have HC0_0 := mz hc0_0
  clear hr0_0 hc0_0
  have HR1_0 := mz hr1_0
  have HC1_0 := mz hc1_0
  clear hr1_0 hc1_0
  have HB := mz (Below.refl w.heap.size w)
  have H : ((laws_eqAtomS.f k l0_0 l1_0).bind fun t103 => (if t103 = true then (some true) else (some false))) = some r := h
  clear h
  replace H := be0_ H
  obtain ⟨t103, A30, H⟩ := H
  replace H : (if t103 = true then (some true) else (some false)) = some r := H
  have A3 := mz A30
  clear A30
  by_cases c4 : t103 = true
  · subst c4
    have H1 : (some true) = some r := by rw [if_pos rfl] at H; exact H
    clear H
    have H := H1
    clear H1
    obtain rfl := Option.some.inj H
    go_enter Try.func8, Try.ntmps8
    go_wp2_with (first | ((with_reducible refine gate_dst (N := 2) rfl ?_); refine box_event ?hg (N := 2) ?hd (cs := #[.slice A0_0 l0_0.length c0_0]) (t := 28) ?hr ?_; (case hd => rfl); (case hg => rfl); (case hr => first | (go_simp; done) | (go_simp; rfl)); intro gb101 hg w5 hbox hb; have n0_ := mz (below_step (by repeat (first | (with_reducible first | exact HB.out | apply below_alloc | apply pw_below_drewN | apply below_drew1) | exact HB.out)) hb); have n1_ := mz (hbox); have n2_ := mz ((by rw [hg]; exact (below_size (by repeat (first | (with_reducible first | exact HB.out | apply below_alloc | apply pw_below_drewN | apply below_drew1) | exact HB.out))) : w.heap.size ≤ gb101)); have n3_ := mz ((by rw [hg]; exact (below_size (by repeat (first | (with_reducible first | exact HB.out | apply below_alloc | apply pw_below_drewN | apply below_drew1) | exact HB.out))) : w.heap.size ≤ gb101)); clear HB; have HB := n0_; have BK101 := n1_; have GW101 := n2_; have GE101 := n3_; clear n0_ n1_ n2_ n3_; clear hb hbox hg) | ((with_reducible refine gate_dst (N := 3) rfl ?_); refine box_event ?hg (N := 3) ?hd (cs := #[.slice A1_0 l1_0.length c1_0]) (t := 28) ?hr ?_; (case hd => rfl); (case hg => rfl); (case hr => first | (go_simp; done) | (go_simp; rfl)); intro gb102 hg w6 hbox hb; have n0_ := mz (blk_below (g := gb101) (o := .cells #[.slice A0_0 l0_0.length c0_0] 28 (0, 0)) (by (with_reducible repeat (first | refine blk_drewN ?_ _ | refine blk_drew ?_ | refine blk_alloc ?_ _)); exact BK101.out) hb); have n1_ := mz (below_step (by repeat (first | (with_reducible first | exact HB.out | apply below_alloc | apply pw_below_drewN | apply below_drew1 | refine below_set ?_ GE101.out) | exact HB.out)) hb); have n2_ := mz (hbox); have n3_ := mz ((by rw [hg]; exact (below_size (by repeat (first | (with_reducible first | exact HB.out | apply below_alloc | apply pw_below_drewN | apply below_drew1 | refine below_set ?_ GE101.out) | exact HB.out))) : w.heap.size ≤ gb102)); have n4_ := mz ((by rw [hg]; exact (below_size (by repeat (first | (with_reducible first | exact HB.out | apply below_alloc | apply pw_below_drewN | apply below_drew1 | refine below_set ?_ GE101.out) | exact HB.out))) : w.heap.size ≤ gb102)); have n5_ := mz ((by rw [hg]; exact Nat.ne_of_lt (blk_lt (g := gb101) (o := .cells #[.slice A0_0 l0_0.length c0_0] 28 (0, 0)) (by (with_reducible repeat (first | refine blk_drewN ?_ _ | refine blk_drew ?_ | refine blk_alloc ?_ _)); exact BK101.out)) : gb101 ≠ gb102)); have n6_ := mz ((by rw [hg]; exact Nat.ne_of_gt (blk_lt (g := gb101) (o := .cells #[.slice A0_0 l0_0.length c0_0] 28 (0, 0)) (by (with_reducible repeat (first | refine blk_drewN ?_ _ | refine blk_drew ?_ | refine blk_alloc ?_ _)); exact BK101.out)) : gb102 ≠ gb101)); clear BK101; clear HB; have BK101 := n0_; have HB := n1_; have BK102 := n2_; have GW102 := n3_; have GE102 := n4_; have NB101_102 := n5_; have NB102_101 := n6_; clear n0_ n1_ n2_ n3_ n4_ n5_ n6_; clear hb hbox hg; have hnb7 := NB101_102.out; have hnc7 := NB102_101.out; have hcz8_0 : w6.cell? ⟨gb101, 0, none⟩ = some (.slice A0_0 l0_0.length c0_0) := (blk_cell BK101.out 0).trans rfl; have hfz8_0 := blk_frozen BK101.out 0; have hcz9_0 : w6.cell? ⟨gb102, 0, none⟩ = some (.slice A1_0 l1_0.length c1_0) := (blk_cell BK102.out 0).trans rfl; have hfz9_0 := blk_frozen BK102.out 0) | ((with_reducible refine gate_callee (f := 21) rfl ?_); refine goesL_ (some 9) rfl rfl Try.func21 (by kernel_rfl) rfl #[.slice A0_0 l0_0.length c0_0, .slice A1_0 l1_0.length c1_0] rfl (by (try simp only [List.map_toArray, List.map_cons, List.map_nil]); first | done | rfl | (simp only [List.length_drop, List.length_take]; rfl)) ?_; (with_reducible refine (laws_eqAtomS.calls k _ _ l0_0 _ _ l1_0 true _ ?side1 ?side2 ?side3 ?side4 A3.out).mono ?_); (case side1 => repeat (first | exact (Kd.C_below HR0_0.out HB.out) | (with_reducible refine Kd.C_alloc ?_ _) | (with_reducible refine Kd.C_drewN ?_ _) | (with_reducible refine Kd.C_drew ?_))); (case side2 => exact HC0_0.out); (case side3 => repeat (first | exact (Kd.C_below HR1_0.out HB.out) | (with_reducible refine Kd.C_alloc ?_ _) | (with_reducible refine Kd.C_drewN ?_ _) | (with_reducible refine Kd.C_drew ?_))); (case side4 => exact HC1_0.out); rintro e w10 ⟨rfl, hb⟩; refine ⟨_, rfl, ?_⟩; have n0_ := mz (blk_below (g := gb101) (o := .cells #[.slice A0_0 l0_0.length c0_0] 28 (0, 0)) (by (with_reducible repeat (first | refine blk_drewN ?_ _ | refine blk_drew ?_ | refine blk_alloc ?_ _)); exact BK101.out) hb); have n1_ := mz (blk_below (g := gb102) (o := .cells #[.slice A1_0 l1_0.length c1_0] 28 (0, 0)) (by (with_reducible repeat (first | refine blk_drewN ?_ _ | refine blk_drew ?_ | refine blk_alloc ?_ _)); exact BK102.out) hb); have n2_ := mz (below_step (by repeat (first | (with_reducible first | exact HB.out | apply below_alloc | apply pw_below_drewN | apply below_drew1 | refine below_set ?_ GE101.out | refine below_set ?_ GE102.out) | exact HB.out)) hb); clear BK101; clear BK102; clear HB; have BK101 := n0_; have BK102 := n1_; have HB := n2_; clear n0_ n1_ n2_; (try clear hb); (try clear hb2); (try clear hk); (try clear hi)))
    go_ret
    exact ⟨by first | rfl | (simp [errW_none, errW_some] <;> rfl) | (simp [*, errW_none, errW_some] <;> rfl), by repeat (first | (with_reducible first | exact HB.out | apply below_alloc | apply pw_below_drewN | apply below_drew1 | refine below_set ?_ GE101.out | refine below_set ?_ GE102.out) | exact HB.out)⟩
  · replace c4 := Bool.eq_false_iff.mpr c4
    subst c4
    have H1 : (some false) = some r := by rw [if_neg (show ¬ (false = true) by decide)] at H; exact H
    clear H
    have H := H1
    clear H1
    obtain rfl := Option.some.inj H
    go_enter Try.func8, Try.ntmps8
    go_wp2_with (first | ((with_reducible refine gate_dst (N := 2) rfl ?_); refine box_event ?hg (N := 2) ?hd (cs := #[.slice A0_0 l0_0.length c0_0]) (t := 28) ?hr ?_; (case hd => rfl); (case hg => rfl); (case hr => first | (go_simp; done) | (go_simp; rfl)); intro gb101 hg w11 hbox hb; have n0_ := mz (below_step (by repeat (first | (with_reducible first | exact HB.out | apply below_alloc | apply pw_below_drewN | apply below_drew1) | exact HB.out)) hb); have n1_ := mz (hbox); have n2_ := mz ((by rw [hg]; exact (below_size (by repeat (first | (with_reducible first | exact HB.out | apply below_alloc | apply pw_below_drewN | apply below_drew1) | exact HB.out))) : w.heap.size ≤ gb101)); have n3_ := mz ((by rw [hg]; exact (below_size (by repeat (first | (with_reducible first | exact HB.out | apply below_alloc | apply pw_below_drewN | apply below_drew1) | exact HB.out))) : w.heap.size ≤ gb101)); clear HB; have HB := n0_; have BK101 := n1_; have GW101 := n2_; have GE101 := n3_; clear n0_ n1_ n2_ n3_; clear hb hbox hg) | ((with_reducible refine gate_dst (N := 3) rfl ?_); refine box_event ?hg (N := 3) ?hd (cs := #[.slice A1_0 l1_0.length c1_0]) (t := 28) ?hr ?_; (case hd => rfl); (case hg => rfl); (case hr => first | (go_simp; done) | (go_simp; rfl)); intro gb102 hg w12 hbox hb; have n0_ := mz (blk_below (g := gb101) (o := .cells #[.slice A0_0 l0_0.length c0_0] 28 (0, 0)) (by (with_reducible repeat (first | refine blk_drewN ?_ _ | refine blk_drew ?_ | refine blk_alloc ?_ _)); exact BK101.out) hb); have n1_ := mz (below_step (by repeat (first | (with_reducible first | exact HB.out | apply below_alloc | apply pw_below_drewN | apply below_drew1 | refine below_set ?_ GE101.out) | exact HB.out)) hb); have n2_ := mz (hbox); have n3_ := mz ((by rw [hg]; exact (below_size (by repeat (first | (with_reducible first | exact HB.out | apply below_alloc | apply pw_below_drewN | apply below_drew1 | refine below_set ?_ GE101.out) | exact HB.out))) : w.heap.size ≤ gb102)); have n4_ := mz ((by rw [hg]; exact (below_size (by repeat (first | (with_reducible first | exact HB.out | apply below_alloc | apply pw_below_drewN | apply below_drew1 | refine below_set ?_ GE101.out) | exact HB.out))) : w.heap.size ≤ gb102)); have n5_ := mz ((by rw [hg]; exact Nat.ne_of_lt (blk_lt (g := gb101) (o := .cells #[.slice A0_0 l0_0.length c0_0] 28 (0, 0)) (by (with_reducible repeat (first | refine blk_drewN ?_ _ | refine blk_drew ?_ | refine blk_alloc ?_ _)); exact BK101.out)) : gb101 ≠ gb102)); have n6_ := mz ((by rw [hg]; exact Nat.ne_of_gt (blk_lt (g := gb101) (o := .cells #[.slice A0_0 l0_0.length c0_0] 28 (0, 0)) (by (with_reducible repeat (first | refine blk_drewN ?_ _ | refine blk_drew ?_ | refine blk_alloc ?_ _)); exact BK101.out)) : gb102 ≠ gb101)); clear BK101; clear HB; have BK101 := n0_; have HB := n1_; have BK102 := n2_; have GW102 := n3_; have GE102 := n4_; have NB101_102 := n5_; have NB102_101 := n6_; clear n0_ n1_ n2_ n3_ n4_ n5_ n6_; clear hb hbox hg; have hnb13 := NB101_102.out; have hnc13 := NB102_101.out; have hcz14_0 : w12.cell? ⟨gb101, 0, none⟩ = some (.slice A0_0 l0_0.length c0_0) := (blk_cell BK101.out 0).trans rfl; have hfz14_0 := blk_frozen BK101.out 0; have hcz15_0 : w12.cell? ⟨gb102, 0, none⟩ = some (.slice A1_0 l1_0.length c1_0) := (blk_cell BK102.out 0).trans rfl; have hfz15_0 := blk_frozen BK102.out 0) | ((with_reducible refine gate_callee (f := 21) rfl ?_); refine goesL_ (some 9) rfl rfl Try.func21 (by kernel_rfl) rfl #[.slice A0_0 l0_0.length c0_0, .slice A1_0 l1_0.length c1_0] rfl (by (try simp only [List.map_toArray, List.map_cons, List.map_nil]); first | done | rfl | (simp only [List.length_drop, List.length_take]; rfl)) ?_; (with_reducible refine (laws_eqAtomS.calls k _ _ l0_0 _ _ l1_0 false _ ?side1 ?side2 ?side3 ?side4 A3.out).mono ?_); (case side1 => repeat (first | exact (Kd.C_below HR0_0.out HB.out) | (with_reducible refine Kd.C_alloc ?_ _) | (with_reducible refine Kd.C_drewN ?_ _) | (with_reducible refine Kd.C_drew ?_))); (case side2 => exact HC0_0.out); (case side3 => repeat (first | exact (Kd.C_below HR1_0.out HB.out) | (with_reducible refine Kd.C_alloc ?_ _) | (with_reducible refine Kd.C_drewN ?_ _) | (with_reducible refine Kd.C_drew ?_))); (case side4 => exact HC1_0.out); rintro e w16 ⟨rfl, hb⟩; refine ⟨_, rfl, ?_⟩; have n0_ := mz (blk_below (g := gb101) (o := .cells #[.slice A0_0 l0_0.length c0_0] 28 (0, 0)) (by (with_reducible repeat (first | refine blk_drewN ?_ _ | refine blk_drew ?_ | refine blk_alloc ?_ _)); exact BK101.out) hb); have n1_ := mz (blk_below (g := gb102) (o := .cells #[.slice A1_0 l1_0.length c1_0] 28 (0, 0)) (by (with_reducible repeat (first | refine blk_drewN ?_ _ | refine blk_drew ?_ | refine blk_alloc ?_ _)); exact BK102.out) hb); have n2_ := mz (below_step (by repeat (first | (with_reducible first | exact HB.out | apply below_alloc | apply pw_below_drewN | apply below_drew1 | refine below_set ?_ GE101.out | refine below_set ?_ GE102.out) | exact HB.out)) hb); clear BK101; clear BK102; clear HB; have BK101 := n0_; have BK102 := n1_; have HB := n2_; clear n0_ n1_ n2_; (try clear hb); (try clear hb2); (try clear hk); (try clear hi)))
    go_ret
    exact ⟨by first | rfl | (simp [errW_none, errW_some] <;> rfl) | (simp [*, errW_none, errW_some] <;> rfl), by repeat (first | (with_reducible first | exact HB.out | apply below_alloc | apply pw_below_drewN | apply below_drew1 | refine below_set ?_ GE101.out | refine below_set ?_ GE102.out) | exact HB.out)⟩
end
theorem l1In_val (n lo hi : Int) : spec_l1In.f n lo hi = some (decide (lo ≤ n) && decide (n ≤ hi)) := by
  unfold spec_l1In.f
  by_cases a : lo ≤ n
  · simp only [if_pos (show n ≥ lo from a), decide_eq_true a, Bool.true_and]
  · simp only [if_neg (show ¬ n ≥ lo from a), decide_eq_false a, Bool.false_and]
theorem less_val (a b : Atom) : spec_l17Less.f a.f0 a.f1 a.f2 a.f3 a.f4 a.f5 b.f0 b.f1 b.f2 b.f3 b.f4 b.f5 = some (lessB a.f0 a.f1 b.f0 b.f1) := by
  unfold spec_l17Less.f lessB
  by_cases h : a.f0 < b.f0
  · simp [h]
  · by_cases h2 : a.f0 = b.f0
    · simp [h2]
    · simp [h, h2]
def atFrom (t m : Int) : List Atom → Nat → Int
  | [], _ => -1
  | o :: r, i => if o.f0 = t ∧ o.f1 = m then (i : Int) else atFrom t m r (i + 1)
theorem atFrom_spec (t m : Int) (r : List Atom) : ∀ i, (inB r t m = false → atFrom t m r i = -1) ∧ (inB r t m = true → ∃ (j : Nat) (h : j < r.length), atFrom t m r i = ((i + j : Nat) : Int) ∧ r[j].f0 = t ∧ r[j].f1 = m) := by
  induction r with
  | nil => intro i; exact ⟨fun _ => rfl, fun h => by simp [inB] at h⟩
  | cons o r ih =>
    intro i
    by_cases q : o.f0 = t ∧ o.f1 = m
    · refine ⟨fun h => ?_, fun _ => ⟨0, by simp, by simp [atFrom, q], q.1, q.2⟩⟩
      simp [inB, q.1, q.2] at h
    · have e : inB (o :: r) t m = inB r t m := by
        simp only [inB, List.any_cons]
        have : (decide (o.f0 = t) && decide (o.f1 = m)) = false := by
          rw [Bool.eq_false_iff]; intro h; simp at h; exact q h
        rw [this, Bool.false_or]
      rw [e]
      have e2 : atFrom t m (o :: r) i = atFrom t m r (i + 1) := by simp [atFrom, q]
      rw [e2]
      refine ⟨(ih (i + 1)).1, fun h => ?_⟩
      obtain ⟨j, hj, h1, h2⟩ := (ih (i + 1)).2 h
      exact ⟨j + 1, by simpa using hj, by rw [h1]; congr 1; omega, by simpa using h2⟩
theorem l17At_loop (l : List Atom) (t m : Int) (hl : l.length ≤ 9223372036854775806) (d : Nat) : ∀ i : Nat, i + d = l.length → Ev (fun k => spec_l17At.l0 k t m l (l.length : Int) (i : Int)) (atFrom t m (l.drop i) i) := by
  induction d with
  | zero =>
    intro i h
    refine Ev.succ ?_
    simp only [spec_l17At.l0, if_neg (show ¬ ((i : Int) < (l.length : Int)) by omega)]
    rw [List.drop_eq_nil_of_le (by omega)]
    exact Ev.now _
  | succ d ih =>
    intro i h
    have hi : i < l.length := by omega
    have e : l.drop i = l[i] :: l.drop (i + 1) := List.drop_eq_getElem_cons hi
    refine Ev.succ ?_
    simp only [spec_l17At.l0, if_pos (show ((i : Int) < (l.length : Int)) by omega), if_pos (show (0 : Int) ≤ i by omega), rd_atom l i hi, w64 (show -9223372036854775808 ≤ (i : Int) + 1 by omega) (by omega)]
    rw [e, atFrom]
    by_cases a : l[i].f0 = t
    · by_cases b : l[i].f1 = m
      · simp only [if_pos a, if_pos b, if_pos (And.intro a b)]; exact Ev.now _
      · simp only [if_pos a, if_neg b, if_neg (show ¬ (l[i].f0 = t ∧ l[i].f1 = m) from fun h => b h.2)]; exact ih (i + 1) (by omega)
    · simp only [if_neg a, if_neg (show ¬ (l[i].f0 = t ∧ l[i].f1 = m) from fun h => a h.1)]; exact ih (i + 1) (by omega)
theorem l17At_ev (l : List Atom) (t m : Int) (hl : l.length ≤ 9223372036854775806) : Ev (fun k => spec_l17At.f k l t m) (atFrom t m l 0) := by
  have := l17At_loop l t m hl l.length 0 (by omega)
  simpa [spec_l17At.f] using this
theorem at_neg (l : List Atom) (t m : Int) : (atFrom t m l 0 < 0) ↔ inB l t m = false := by
  cases h : inB l t m with
  | false => rw [(atFrom_spec t m l 0).1 h]; simp
  | true =>
    obtain ⟨j, hj, h1, _⟩ := (atFrom_spec t m l 0).2 h
    rw [h1]
    simp only [Bool.true_eq_false, iff_false]
    omega

theorem specSeq_j2 (l : List Atom) (hl : l.length ≤ 9223372036854775806) (i : Int) (x : Atom) (R b : Bool) (hR : Ev (fun k => spec_GoodSeq.l0 k l (l.length : Int) (wrap64 (i + 1)) l) R) :
    Ev (fun k => spec_GoodSeq.j2 k l (l.length : Int) i b l x.f0 x.f1 x.f2 x.f3 x.f4 x.f5) ((b || (decide (x.f2 < x.f0) && inB l x.f2 x.f3)) && R) := by
  refine Ev.succ ?_
  cases b with
  | true => simp only [spec_GoodSeq.j2, if_true, Bool.true_or, Bool.true_and]; exact hR
  | false =>
    simp only [spec_GoodSeq.j2, Bool.false_eq_true, if_false, Bool.false_or]
    by_cases a : x.f2 < x.f0
    · simp only [if_neg (show ¬ x.f2 ≥ x.f0 by omega), decide_eq_true a, Bool.true_and]
      refine Ev.bind (l17At_ev l x.f2 x.f3 hl) ?_
      cases h : inB l x.f2 x.f3 with
      | false => simp only [if_pos ((at_neg l x.f2 x.f3).2 h), Bool.false_and]; exact Ev.now _
      | true => simp only [if_neg (show ¬ atFrom x.f2 x.f3 l 0 < 0 from fun q => by rw [(at_neg l x.f2 x.f3).1 q] at h; cases h), Bool.true_and]; exact hR
    · simp only [if_pos (show x.f2 ≥ x.f0 by omega), decide_eq_false a, Bool.false_and]; exact Ev.now _
theorem specSeq_j1 (l : List Atom) (hl : l.length ≤ 9223372036854775806) (i : Int) (x : Atom) (R b : Bool) (hR : Ev (fun k => spec_GoodSeq.l0 k l (l.length : Int) (wrap64 (i + 1)) l) R) :
    Ev (fun k => spec_GoodSeq.j1 k l (l.length : Int) i b l x.f0 x.f1 x.f2 x.f3 x.f4 x.f5) (!b && (((decide (x.f2 = 0) && decide (x.f3 = 0)) || (decide (x.f2 < x.f0) && inB l x.f2 x.f3)) && R)) := by
  refine Ev.succ ?_
  cases b with
  | true => simp only [spec_GoodSeq.j1, if_true, Bool.not_true, Bool.false_and]; exact Ev.now _
  | false =>
    simp only [spec_GoodSeq.j1, Bool.false_eq_true, if_false, Bool.not_false, Bool.true_and]
    by_cases a : x.f2 = 0
    · have := specSeq_j2 l hl i x R (x.f3 == 0) hR
      simp only [if_pos a, decide_eq_true a, Bool.true_and]
      refine ev_eq this ?_
      rw [show (x.f3 == 0) = decide (x.f3 = 0) by rw [Bool.eq_iff_iff]; simp]
    · have := specSeq_j2 l hl i x R false hR
      simp only [if_neg a, decide_eq_false a, Bool.false_and]
      exact this
theorem specSeq_loop (l : List Atom) (hl : l.length ≤ 9223372036854775806) (hs : sizedA l = true) (d : Nat) : ∀ i : Nat, i + d = l.length → Ev (fun k => spec_GoodSeq.l0 k l (l.length : Int) (i : Int) l) (fromB (atomS l) (l.drop i) i && decide (l.length ≤ 80)) := by
  induction d with
  | zero =>
    intro i h
    refine Ev.succ ?_
    simp only [spec_GoodSeq.l0, if_neg (show ¬ ((i : Int) < (l.length : Int)) by omega)]
    rw [List.drop_eq_nil_of_le (by omega)]
    refine ev_eq (Ev.now _) ?_
    rw [fromB, Bool.true_and, Bool.eq_iff_iff]; simp; omega
  | succ d ih =>
    intro i h
    have hi : i < l.length := by omega
    have e : l.drop i = l[i] :: l.drop (i + 1) := List.drop_eq_getElem_cons hi
    have hR := ih (i + 1) (by omega)
    have hR' : Ev (fun k => spec_GoodSeq.l0 k l (l.length : Int) (wrap64 ((i : Int) + 1)) l) (fromB (atomS l) (l.drop (i + 1)) (i + 1) && decide (l.length ≤ 80)) := by
      rw [w64 (by omega) (by omega)]; exact hR
    have hsz := sizedA_of hs l[i] (List.getElem_mem hi)
    rw [e, fromB, Bool.and_assoc]
    have hJ := fun b => specSeq_j1 l hl (i : Int) l[i] _ b hR'
    generalize (fromB (atomS l) (l.drop (i + 1)) (i + 1) && decide (l.length ≤ 80)) = R at hJ ⊢
    clear hR hR' ih
    refine Ev.succ ?_
    simp only [spec_GoodSeq.l0, if_pos (show ((i : Int) < (l.length : Int)) by omega), if_pos (show (0 : Int) ≤ i by omega), rd_atom l i hi, l1In_val, Option.bind_some]
    have hbad : plainA l[i] = false → Ev (fun k => spec_GoodSeq.j1 k l (l.length : Int) (i : Int) true l l[i].f0 l[i].f1 l[i].f2 l[i].f3 l[i].f4 l[i].f5) (atomS l i l[i] && R) := fun q => by
      refine ev_eq (hJ true) ?_
      simp [atomS, q]
    cases c1 : (decide (1 ≤ l[i].f0) && decide (l[i].f0 ≤ 10000)) with
    | false => simp only [Bool.false_eq_true, if_false]; exact hbad (by simp only [plainA, c1, Bool.false_and])
    | true =>
      simp only [if_true]
      cases c2 : (decide (0 ≤ l[i].f1) && decide (l[i].f1 ≤ 9)) with
      | false => simp only [Bool.false_eq_true, if_false]; exact hbad (by rw [plainA, c1, Bool.true_and, c2]; rfl)
      | true =>
        simp only [if_true]
        by_cases c3 : l[i].f4.size = 1
        · simp only [if_pos (show (l[i].f4.size : Int) = 1 by omega)]
          refine Ev.bind (specBytes_ev l[i].f4 hsz.2.2.2.2) ?_
          cases c4 : bytesB l[i].f4 with
          | false =>
            simp only [Bool.false_eq_true, if_false]
            exact hbad (by rw [plainA, c1, Bool.true_and, c2]; simp [oneB, textB, c4])
          | true =>
            have hp : plainA l[i] = true := by rw [plainA, c1, Bool.true_and, c2]; simp [oneB, textB, c4, c3]
            simp only [if_true]
            cases i with
            | zero =>
              simp only [if_neg (show ¬ (((0 : Nat) : Int) > 0) by omega)]
              refine ev_eq (hJ false) ?_
              simp [atomS, hp, stepB]
            | succ i =>
              simp only [if_pos (show (((i + 1 : Nat) : Int) > 0) by omega), show (((i + 1 : Nat) : Int) - 1) = (i : Int) by omega, w64 (show -9223372036854775808 ≤ (i : Int) by omega) (by omega), if_pos (show (0 : Int) ≤ (i : Int) by omega), if_pos (show ((i : Int) < (l.length : Int)) by omega), rd_atom l i (by omega), less_val, Option.bind_some]
              refine ev_eq (hJ _) ?_
              rw [Bool.not_not]
              simp [atomS, hp, stepB, show i < l.length by omega, Bool.and_assoc]
        · simp only [if_neg (show ¬ (l[i].f4.size : Int) = 1 by omega)]
          exact hbad (by rw [plainA, c1, Bool.true_and, c2]; simp [oneB, c3])
theorem specSeq_ev (l : List Atom) (hl : l.length ≤ 9223372036854775806) (hs : sizedA l = true) : Ev (fun k => spec_GoodSeq.f k l) (goodS l) := by
  have := specSeq_loop l hl hs l.length 0 (by omega)
  simpa [spec_GoodSeq.f, goodS] using this

abbrev LAtom := S50
def atomOf (x : LAtom) : Atom := ⟨x.f0, x.f1, x.f2, x.f3, x.f4, x.f5⟩
def seqOf (l : List LAtom) : List Atom := l.map atomOf
theorem rd_latom (l : List LAtom) (i : Nat) (h : i < l.length) : rd_T50 l (i : Int) = l[i] := by
  simp [rd_T50, List.getD_eq_getElem?_getD, h]
theorem seqOf_length (a : List LAtom) : (seqOf a).length = a.length := by simp [seqOf]
theorem szAtomS_loop (a : List LAtom) (hm : a.length ≤ maxLen) (hB : ∀ e ∈ a, e.f4.size ≤ maxLen) (d : Nat) : ∀ (i : Nat) (left : Int), i + d = a.length → 0 ≤ left → left ≤ 1048576 →
    ∃ r, Ev (fun k => laws_szAtomS.l0 k a left (i : Int)) r ∧ r ≤ left := by
  simp only [maxLen] at hm
  induction d with
  | zero =>
    intro i left h h0 h1
    refine ⟨left, ?_, by omega⟩
    refine Ev.succ ?_
    simp only [laws_szAtomS.l0, if_neg (show ¬ ((i : Int) < (a.length : Int)) by omega)]
    exact Ev.now _
  | succ d ih =>
    intro i left h h0 h1
    have hi : i < a.length := by omega
    have hb := hB a[i] (List.getElem_mem hi)
    simp only [maxLen] at hb
    by_cases z : left - (a[i].f4.size : Int) < 0
    · refine ⟨-1, Ev.succ ?_, by omega⟩
      simp only [laws_szAtomS.l0, if_pos (show ((i : Int) < (a.length : Int)) by omega), if_pos (show (0 : Int) ≤ i by omega), rd_latom a i hi, laws_szAtom.f, w64 (show -9223372036854775808 ≤ left - (a[i].f4.size : Int) by omega) (by omega), if_pos z, Option.bind_some, if_pos (show (-1 : Int) < 0 by omega)]
      exact Ev.now _
    · obtain ⟨r, hr, hle⟩ := ih (i + 1) (left - (a[i].f4.size : Int)) (by omega) (by omega) (by omega)
      refine ⟨r, Ev.succ ?_, by omega⟩
      simp only [laws_szAtomS.l0, if_pos (show ((i : Int) < (a.length : Int)) by omega), if_pos (show (0 : Int) ≤ i by omega), rd_latom a i hi, laws_szAtom.f, w64 (show -9223372036854775808 ≤ left - (a[i].f4.size : Int) by omega) (by omega), if_neg z, Option.bind_some, w64 (show -9223372036854775808 ≤ (i : Int) + 1 by omega) (by omega)]
      exact hr
theorem szSeq_ev (a : List LAtom) (hm : a.length ≤ maxLen) (hB : ∀ e ∈ a, e.f4.size ≤ maxLen) (left : Int) (h0 : 0 ≤ left) (h1 : left ≤ 1048576) :
    ∃ r, Ev (fun k => laws_szSeq.f k a left) r ∧ r ≤ left ∧ (0 ≤ r → a.length ≤ 1048576) := by
  have hm' := hm
  simp only [maxLen] at hm'
  have key : ∃ r, Ev (fun k => laws_szAtomS.f k a left) r ∧ r ≤ left ∧ (0 ≤ r → a.length ≤ 1048576) := by
    unfold laws_szAtomS.f
    rw [w64 (n := left - (a.length : Int)) (by omega) (by omega)]
    by_cases b : left - (a.length : Int) < 0
    · simp only [if_pos b]
      exact ⟨-1, Ev.now _, by omega, fun h => by omega⟩
    · simp only [if_neg b]
      obtain ⟨r, hr, hle⟩ := szAtomS_loop a hm hB a.length 0 (left - (a.length : Int)) (by omega) (by omega) (by omega)
      exact ⟨r, hr, by omega, fun h => by omega⟩
  obtain ⟨r, hr, h2, h3⟩ := key
  unfold laws_szSeq.f
  by_cases z : r < 0
  · refine ⟨-1, Ev.bind hr ?_, by omega, fun h => by omega⟩
    simp only [if_pos z]; exact Ev.now _
  · refine ⟨r, Ev.bind hr ?_, h2, h3⟩
    simp only [if_neg z]; exact Ev.now _
theorem toAtomS_loop (a : List LAtom) (hm : a.length ≤ 1048576) (d : Nat) : ∀ (i : Nat) (b : List Atom), i + d = a.length → b.length = a.length → b.take i = seqOf (a.take i) →
    Ev (fun k => laws_toAtomS.l0 k a b (i : Int)) (seqOf a) := by
  induction d with
  | zero =>
    intro i b h hb ht
    refine Ev.succ ?_
    simp only [laws_toAtomS.l0, if_neg (show ¬ ((i : Int) < (a.length : Int)) by omega)]
    refine ev_eq (Ev.now b) ?_
    rwa [List.take_of_length_le (by omega), List.take_of_length_le (by omega)] at ht
  | succ d ih =>
    intro i b h hb ht
    have hi : i < a.length := by omega
    refine Ev.succ ?_
    simp only [laws_toAtomS.l0, if_pos (show ((i : Int) < (a.length : Int)) by omega), if_pos (show (0 : Int) ≤ i by omega), rd_latom a i hi, laws_toAtom.f, Option.bind_some, if_pos (show ((i : Int) < (b.length : Int)) by omega), w64 (show -9223372036854775808 ≤ (i : Int) + 1 by omega) (by omega), Int.toNat_natCast]
    refine ih (i + 1) _ (by omega) (by simp [hb]) ?_
    rw [List.take_succ_eq_append_getElem (by simp; omega), List.take_succ_eq_append_getElem hi, List.take_set_of_le (by omega), ht]
    simp only [seqOf, List.map_append, List.map_cons, List.map_nil, List.getElem_set_self]
    rfl
theorem toSeq_ev (a : List LAtom) (hm : a.length ≤ 1048576) : Ev (fun k => laws_toSeq.f k a) (seqOf a) := by
  unfold laws_toSeq.f
  have h : Ev (fun k => laws_toAtomS.f k a) (seqOf a) := by
    unfold laws_toAtomS.f
    simp only [if_pos (show (0 : Int) ≤ (a.length : Int) by omega), Int.toNat_natCast, if_pos (show a.length ≤ 5026338869833 by omega)]
    exact toAtomS_loop a hm a.length 0 _ (by omega) (by simp) (by simp [seqOf])
  exact Ev.bind h (Ev.now _)
theorem eqAtomS_loop (a : List Atom) (hm : a.length ≤ 1048576) (d : Nat) : ∀ i : Nat, i + d = a.length → Ev (fun k => laws_eqAtomS.l0 k a a (i : Int)) true := by
  induction d with
  | zero =>
    intro i h
    refine Ev.succ ?_
    simp only [laws_eqAtomS.l0, if_neg (show ¬ ((i : Int) < (a.length : Int)) by omega)]
    exact Ev.now _
  | succ d ih =>
    intro i h
    have hi : i < a.length := by omega
    refine Ev.succ ?_
    simp only [laws_eqAtomS.l0, if_pos (show ((i : Int) < (a.length : Int)) by omega), if_pos (show (0 : Int) ≤ i by omega), rd_atom a i hi, laws_eqAtom.f, if_true, bne_self_eq_false, Bool.false_eq_true, if_false, Option.bind_some, w64 (show -9223372036854775808 ≤ (i : Int) + 1 by omega) (by omega)]
    exact ih (i + 1) (by omega)
theorem eqSeq_ev (a : List Atom) (hm : a.length ≤ 1048576) : Ev (fun k => laws_eqSeq.f k a a) true := by
  unfold laws_eqSeq.f
  have h : Ev (fun k => laws_eqAtomS.f k a a) true := by
    unfold laws_eqAtomS.f
    simp only [if_true]
    exact eqAtomS_loop a hm a.length 0 (by omega)
  refine Ev.bind h ?_
  simp only [if_true]
  exact Ev.now _
theorem seqOf_sized (a : List LAtom) (h : ∀ e ∈ a, B50 e) : sizedA (seqOf a) = true := by
  simp only [sizedA, seqOf, List.all_eq_true, List.mem_map]
  rintro x ⟨y, hy, rfl⟩
  obtain ⟨h0, h1, h2, h3, h4, _⟩ := h y hy
  simp [atomOf, h0, h1, h2, h3, h4]
section
attribute [local go_sem] max2_int min2_int max_two min_two max_three min_three max_four min_four
theorem eqA56 (d : Nat) (w : World) (x0 y0 : Int) (x1 y1 : Int) :
    (Op.equalIn (d + 2) 56 (.agg #[.int .i64 x0, .int .i64 x1]) (.agg #[.int .i64 y0, .int .i64 y1])).run Try.prog w = .ok (x0 == y0 && (x1 == y1)) w := by
  refine eqA_of Try.underlying56 (by kernel_rfl) ?_
  refine eqf_cons (by rfl) (by go_simp; rfl) (by go_simp; rfl) (by go_simp) ?_
  exact eqf_last (by rfl) (by go_simp; rfl) (by go_simp; rfl) (by go_simp)
end
section
attribute [local go_sem high] eqA56

end
end Go.Proofs.Ytejilfaioooabaa.X
namespace Go.Proofs.Ytejilfaioooabaa.X
open Go.RowKit Go.Shelf Go.Proofs.YtejilfaioooabaaW.PrintWords Go.Proofs.YtejilfaioooabaaW.PrintLast Go.Proofs.YtejilfaioooabaaW.PrintMore
section
attribute [local go_sem] Oper.semAt_some
attribute [local go_sem high] eqA56
def ordL (l : List Atom) : Nat → Int → Int → List Int
  | 0, _, _ => []
  | d + 1, t, a => (backs l.length l.length).flatMap fun i => if (l[i].f2 == t && (l[i].f3 == a)) = true then (i.1 : Int) :: ordL l d l[i].f0 l[i].f1 else []
def ordP (l : List Atom) (d : Nat) (t a : Int) (pre : List (Fin l.length)) : List Int := pre.flatMap fun i => if (l[i].f2 == t && (l[i].f3 == a)) = true then (i.1 : Int) :: ordL l d l[i].f0 l[i].f1 else []
theorem ordP_snoc (l : List Atom) (d : Nat) (t a : Int) (pre : List (Fin l.length)) (i : Fin l.length) : ordP l d t a (pre ++ [i]) = ordP l d t a pre ++ (if (l[i].f2 == t && (l[i].f3 == a)) = true then (i.1 : Int) :: ordL l d l[i].f0 l[i].f1 else []) := by
  simp [ordP, List.flatMap_append]
structure Tree (l : List Atom) : Prop where
  len : l.length ≤ 80
  lt : ∀ i j : Fin l.length, l[j].f2 = l[i].f0 → l[j].f3 = l[i].f1 → i.1 < j.1
  short : ∀ d t a, d ≤ 81 → (ordL l d t a).length ≤ 6480
theorem ordP_len {l : List Atom} (hT : Tree l) (d : Nat) (hd : d ≤ 81) (t a : Int) (pre : List (Fin l.length)) : (ordP l d t a pre).length ≤ pre.length * 6481 := by
  induction pre with
  | nil => simp [ordP]
  | cons i pre ih =>
    have h1 := hT.short d l[i].f0 l[i].f1 hd
    simp only [ordP, List.flatMap_cons, List.length_append, List.length_cons] at ih ⊢
    split
    · simp only [List.length_cons]; omega
    · simp only [List.length_nil]; omega
def ints (l : List Int) : List Value := l.map (Value.int .i64)
structure KeepsT (e : TypeId) (w w' : World) : Prop where
  size : w.heap.size ≤ w'.heap.size
  same : ∀ (k : Nat) (o : Obj), w.heap[k]? = some o → (∀ cs f, o ≠ .cells cs e f) → w'.heap[k]? = some o
theorem KeepsT.refl (e : TypeId) (w : World) : KeepsT e w w := ⟨Nat.le_refl _, fun _ _ h _ => h⟩
theorem KeepsT.trans {e : TypeId} {A B C : World} (h : KeepsT e A B) (k : KeepsT e B C) : KeepsT e A C := ⟨Nat.le_trans h.size k.size, fun i o hi ho => k.same i o (h.same i o hi ho) ho⟩
theorem KeepsT.of_below {e : TypeId} {n : Nat} {W W' : World} (hb : Below n W W') (hn : W.heap.size ≤ n) : KeepsT e W W' :=
  ⟨hb.size, fun k o hk _ => (hb.block k (by have := (Array.getElem?_eq_some_iff.1 hk).1; omega)).trans hk⟩
theorem KeepsT.of_grown {e : TypeId} {W W' : World} {base size k : Nat} {v : Value} {xs : List Value} (hg : W.grownBy W' v.ownBlock) (hr : W.ownsRow base e size v k xs) : KeepsT e W W' := by
  refine ⟨hg.size, fun i o hi ho => (hg.block i (Array.getElem?_eq_some_iff.1 hi).1 ?_).trans hi⟩
  intro e'
  rcases hr.2 with ⟨rfl, _⟩ | ⟨g, cap, cur, rfl, _, hgb, _⟩
  · simp [Value.ownBlock] at e'
  · obtain rfl : i = g := by simpa [Value.ownBlock] using e'
    rw [hgb] at hi
    exact ho cur (0, 0) (Option.some.inj hi).symm
theorem KeepsT.others {e : TypeId} {W W' : World} (h : KeepsT e W W') : KeepsOthers W W' :=
  ⟨h.size, fun k o hk ho => h.same k o hk (fun cs f e => by subst e; exact absurd ho (by simp [Obj.isCells]))⟩
theorem KeepsT.blk {e t : TypeId} {W W' : World} (h : KeepsT e W W') {B : Nat} {cs : Array Value} {f : Nat × Nat} (hb : W.heap[B]? = some (.cells cs t f)) (hte : t ≠ e) : W'.heap[B]? = some (.cells cs t f) :=
  h.same B _ hb (fun cs' f' e' => by cases e'; exact hte rfl)
theorem KeepsT.step {e : TypeId} {w X Y : World} {row : Option Nat} (h : KeepsT e w X) (hg : X.grownBy Y row) (hr : ∀ r, row = some r → w.heap.size ≤ r) : KeepsT e w Y :=
  ⟨Nat.le_trans h.size hg.size, fun k o hk ho => (hg.block k (Nat.lt_of_lt_of_le (Array.getElem?_eq_some_iff.1 hk).1 h.size) (fun e' => by have h1 := hr k e'.symm; have h2 := (Array.getElem?_eq_some_iff.1 hk).1; omega)).trans (h.same k o hk ho)⟩
def OrdI (l : List Atom) (gs : Nat) (A : Option Addr) (c : Nat) (w0 w : World) (t a : Int) (d : Nat) (xs : List Int) (pre : List (Fin l.length)) (W : World) : Prop :=
  ∃ (Ao : Option Addr) (k co : Nat), (k = (xs ++ ordP l d t a pre).length) ∧ Boxed W w.heap.size 60 (.pointer (some ⟨gs, 0, none⟩)) ∧ Boxed W (w.heap.size + 1) 38 (.slice Ao k co) ∧ W.heap[w.heap.size + 1 + 1]? = some (.cells #[.int .i64 t, .int .i64 a] 56 (0, 0)) ∧ Boxed W (w.heap.size + 1 + 1 + 1) 26 (.slice A l.length c) ∧ W.ownsRow w0.heap.size 3 1 (.slice Ao k co) k (ints (xs ++ ordP l d t a pre)) ∧ Below w0.heap.size w0 W ∧ KeepsT 3 w W

theorem blk_own {X Y : World} {B : Nat} {row : Option Nat} {cs : Array Value} {t : TypeId} {f : Nat × Nat} (h : X.heap[B]? = some (.cells cs t f)) (hg : X.grownBy Y row) (hr : ∀ r, row = some r → ∃ o, X.heap[r]? = some o ∧ o.isCells = false) : Y.heap[B]? = some (.cells cs t f) :=
  (hg.block B (Array.getElem?_eq_some_iff.1 h).1 (fun e => by obtain ⟨o, ho, hc⟩ := hr B e.symm; rw [h] at ho; cases ho; cases hc)).trans h
theorem row_own {X Y : World} {row : Option Nat} {base : Nat} {e : TypeId} {size n : Nat} {v : Value} {xs : List Value} (h : X.ownsRow base e size v n xs) (hg : X.grownBy Y row) (hr : ∀ r, row = some r → ∃ o, X.heap[r]? = some o ∧ o.isCells = false) : Y.ownsRow base e size v n xs := by
  refine h.kept hg ?_
  rcases h.2 with ⟨rfl, _⟩ | ⟨g, cap, cur, rfl, _, hgb, _⟩
  · exact .inl rfl
  · refine .inr fun e' => ?_
    obtain ⟨o, ho, hc⟩ := hr g (by simpa [Value.ownBlock] using e'.symm)
    rw [hgb] at ho; cases ho; cases hc
theorem OrdI.own (l : List Atom) (gs : Nat) (A : Option Addr) (c : Nat) (w0 w : World) (t a : Int) (d : Nat) (xs : List Int) (B : Nat) (hB : w.heap.size ≤ B) (hw : w0.heap.size ≤ w.heap.size) : OwnFrom B (OrdI l gs A c w0 w t a d xs) := by
  rintro pre X Y r ⟨Ao, k, co, h0, h1, h2, h3, h4, h5, h6, h7⟩ hg hr
  have hr2 : ∀ r', r = some r' → ∃ o, X.heap[r']? = some o ∧ o.isCells = false := fun r' e => (hr r' e).2
  exact ⟨Ao, k, co, h0, blk_own h1 hg hr2, blk_own h2 hg hr2, blk_own h3 hg hr2, blk_own h4 hg hr2, row_own h5 hg hr2, ownFrom_below (β := Unit) (Nat.le_refl _) (by omega) () X Y r h6 hg hr,
    h7.step hg (fun r' e => Nat.le_trans hB (hr r' e).1)⟩

theorem ord_bound {k x m : Nat} (h1 : x + 1000000 * (m + 1 + 1) ≤ 1000000000) (h2 : k ≤ x + 518480) : k + 1 + 1000000 * (m + 1) ≤ 1000000000 := by
  have e : 1000000 * (m + 1 + 1) = 1000000 * (m + 1) + 1000000 := Nat.mul_succ _ _
  rw [e] at h1
  generalize 1000000 * (m + 1) = z at h1 ⊢
  omega
theorem below_mid {n : Nat} {a b c : World} (h1 : Below n a b) (h2 : Below n a c) (hs : b.heap.size ≤ c.heap.size) : Below n b c :=
  ⟨h2.os.trans h1.os.symm, h2.tape.trans h1.tape.symm, h2.output.trans h1.output.symm, hs, fun k hk => (h2.block k hk).trans (h1.block k hk).symm⟩
theorem keepsFrom_below {n B : Nat} {W W' : World} (hb : Below n W W') (hn : W.heap.size ≤ n) : KeepsFrom B W W' :=
  ⟨hb.size, fun k o _ hk _ => (hb.block k (by have := (Array.getElem?_eq_some_iff.1 hk).1; omega)).trans hk⟩

theorem blk_set_other {W : World} {B B' : Nat} {cs : Array Value} {t : TypeId} {f : Nat × Nat} (h : W.heap[B]? = some (.cells cs t f)) (hne : B ≠ B') (u : Value) : (W.setCell ⟨B', 0, none⟩ u).heap[B]? = some (.cells cs t f) :=
  ((grownBy_setCell' W B' u).block B (Array.getElem?_eq_some_iff.1 h).1 (fun e => hne (Option.some.inj e))).trans h

set_option maxRecDepth 100000 in
set_option maxHeartbeats 8000000 in
theorem order_in (F : Fence) (hro : F.round = none) (h79 : F.fn 44) (h87 : F.fn 45) (h57 : F.fn 35)
    (hBe : ∀ (n : Nat) (y : Atom) (W : World), CallsIn F n Try.prog 32 #[atomV y] W fun e W' => e = .returned (.agg #[.int .i64 y.f2, .int .i64 y.f3]) ∧ Below W.heap.size W W')
    (hId : ∀ (n : Nat) (y : Atom) (W : World), CallsIn F n Try.prog 30 #[atomV y] W fun e W' => e = .returned (.agg #[.int .i64 y.f0, .int .i64 y.f1]) ∧ Below W.heap.size W W')
    (l : List Atom) (hT : Tree l) (gs : Nat) (A : Option Addr) (c : Nat) (w0 : World) (hbox : Boxed w0 gs 28 (.slice A l.length c)) (hC : Kd.C k41 w0 A l.length l) (hc : l.length ≤ c) :
    ∀ (d : Nat), d ≤ 80 → ∀ (n : Nat), 4 * d + 6 ≤ n → ∀ (t a : Int) (_ : ∀ j : Fin l.length, l[j].f2 = t → l[j].f3 = a → l.length ≤ j.1 + d) (xs : List Int) (_ : xs.length + 1000000 * (d + 1) ≤ 1000000000) (Ao : Option Addr) (co : Nat) (w : World) (_ : Below w0.heap.size w0 w)
      (_ : w.ownsRow w0.heap.size 3 1 (.slice Ao xs.length co) xs.length (ints xs)),
    CallsIn F n Try.prog 35 #[.pointer (some ⟨gs, 0, none⟩), .slice Ao xs.length co, .agg #[.int .i64 t, .int .i64 a]] w fun e W' => ∃ Ao' co', e = .returned (.slice Ao' (xs ++ ordL l (d + 1) t a).length co') ∧ W'.ownsRow w0.heap.size 3 1 (.slice Ao' (xs ++ ordL l (d + 1) t a).length co') (xs ++ ordL l (d + 1) t a).length (ints (xs ++ ordL l (d + 1) t a)) ∧ KeepsT 3 w W' ∧ Below w0.heap.size w W' := by
  intro d
  induction d using Nat.strongRecOn with
  | ind d ih =>
    intro hd n hn t a hch xs hlen Ao co w hw0 hown
    have IH := mz ih
    have HBe := mz hBe
    have HId := mz hId
    have HC := mz hC
    have HX := mz hbox
    have cX := hbox.cell
    have cX2 : w.cell? ⟨gs, 0, none⟩ = some (.slice A l.length c) := (hw0.cell (p := ⟨gs, 0, none⟩) hbox.lt).trans cX
    have HT := mz hT
    have HCH := mz hch
    have HL := mz hlen
    have HW := mz hw0
    have HO := mz hown
    have HCC := mz hc
    clear ih hBe hId hC hbox cX hT hch hlen hw0 hown hc
    have hgl : gs < w.heap.size := World.block_lt_of_cell? w _ cX2
    have cX3 : (((w.alloc (.cells #[.pointer (some ⟨gs, 0, none⟩)] 60)).alloc (.cells #[.slice Ao xs.length co] 38)).alloc (.cells #[.int .i64 t, .int .i64 a] 56)).cell? ⟨gs, 0, none⟩ = some (.slice A l.length c) :=
      ((((Below.refl w.heap.size w).alloc (Nat.le_refl _) _).alloc (by simp) _).alloc (by simp; omega) _).cell (p := ⟨gs, 0, none⟩) hgl |>.trans cX2
    have h1 : 1 ≤ n := by omega
    refine callsIn_of_wp_marks Try.func35 rfl h57 ?_ hro
    simp only [Try.ntmps35, List.size_toArray, List.length_cons, List.length_nil, Nat.reduceAdd, Nat.reduceSub, Array.replicate_succ, Array.replicate_zero, List.push_toArray, List.append_toArray, List.nil_append, List.cons_append]
    gi_wp2_with (gi_at_call 44; refine (backward_in F _ h79 hro _ _ _ _).mono ?_; rintro e w' ⟨rfl, rfl⟩)
    clear cX3 cX2
    have b0 := (((Boxed.new w 60 (.pointer (some ⟨gs, 0, none⟩))).alloc (.cells #[.slice Ao xs.length co] 38)).alloc (.cells #[.int .i64 t, .int .i64 a] 56)).alloc (.cells #[.slice A l.length c] 26)
    have b1 := ((Boxed.new (w.alloc (.cells #[.pointer (some ⟨gs, 0, none⟩)] 60)) 38 (.slice Ao xs.length co)).alloc (.cells #[.int .i64 t, .int .i64 a] 56)).alloc (.cells #[.slice A l.length c] 26)
    have b2 := (Below.heap_alloc _ (.cells #[.slice A l.length c] 26) _ (by simp)).trans (World.alloc_heap_new ((w.alloc (.cells #[.pointer (some ⟨gs, 0, none⟩)] 60)).alloc (.cells #[.slice Ao xs.length co] 38)) (.cells #[.int .i64 t, .int .i64 a] 56))
    have b3 := Boxed.new (((w.alloc (.cells #[.pointer (some ⟨gs, 0, none⟩)] 60)).alloc (.cells #[.slice Ao xs.length co] 38)).alloc (.cells #[.int .i64 t, .int .i64 a] 56)) 26 (.slice A l.length c)
    simp only [World.size_alloc] at b1 b2 b3
    have hO4 := (((HO.out.alloc (.cells #[.pointer (some ⟨gs, 0, none⟩)] 60)).alloc (.cells #[.slice Ao xs.length co] 38)).alloc (.cells #[.int .i64 t, .int .i64 a] 56)).alloc (.cells #[.slice A l.length c] 26)
    have hB4 : Below w.heap.size w ((((w.alloc (.cells #[.pointer (some ⟨gs, 0, none⟩)] 60)).alloc (.cells #[.slice Ao xs.length co] 38)).alloc (.cells #[.int .i64 t, .int .i64 a] 56)).alloc (.cells #[.slice A l.length c] 26)) := by repeat (first | exact Below.refl _ _ | apply below_alloc)
    have hsz : ((((w.alloc (.cells #[.pointer (some ⟨gs, 0, none⟩)] 60)).alloc (.cells #[.slice Ao xs.length co] 38)).alloc (.cells #[.int .i64 t, .int .i64 a] 56)).alloc (.cells #[.slice A l.length c] 26)).heap.size = w.heap.size + 4 := by simp
    obtain ⟨W0, hW0⟩ : ∃ W0, ((((w.alloc (.cells #[.pointer (some ⟨gs, 0, none⟩)] 60)).alloc (.cells #[.slice Ao xs.length co] 38)).alloc (.cells #[.int .i64 t, .int .i64 a] 56)).alloc (.cells #[.slice A l.length c] 26)) = W0 := ⟨_, rfl⟩
    rw [hW0] at b0 b1 b2 b3 hO4 hB4 hsz ⊢
    clear hW0
    have HB4 := mz hB4
    have HO4 := mz hO4
    clear hB4 hO4
    have hw0 := HW.out
    have hw0s := hw0.size
    have hB4 := HB4.out
    have hB04 : Below w0.heap.size w0 W0 := hw0.trans (hB4.mono hw0s)
    have hG4 : KeepsT 3 w W0 := KeepsT.of_below hB4 (Nat.le_refl _)
    refine wpIn_rangeFunc_ownH hro (by omega) (gf := 45) (lb := #[.pointer (some ⟨w.heap.size + 1 + 1 + 1, 0, none⟩)]) rfl h87 (enters_of Try.func45 (by kernel_rfl) rfl)
      (back_stops F (n - 1) h87 hro (by omega) (w.heap.size + 1 + 1 + 1) A l l.length c rfl (by have := HT.out.len; omega) (fun W => Below w0.heap.size w0 W) (fun W h => Kd.C_below HC.out h) (fun X B => Below w0.heap.size X B ∧ B.heap[w.heap.size + 1 + 1 + 1]? = X.heap[w.heap.size + 1 + 1 + 1]?) ?hK W0 b3.cell (fun W h => hB04.trans (h.mono (by omega))))
      (fun h1 h2 => ⟨h1.1.trans h2.1, h2.2.trans h1.2⟩) ?hKb (Below.refl _ _) (fun _ => by rfl)
      (OrdI l gs A c w0 w t a d xs) (fun _ _ _ => False) (OrdI.own _ _ _ _ _ _ _ _ _ _ _ (by omega) hw0s) (fun _ _ _ _ _ hs _ _ => hs)
      ⟨Ao, xs.length, co, by simp [ordP], b0, b1, b2, b3, by simpa [ordP] using HO4.out, hB04, hG4⟩
      (fun x a' W => ∃ Bx, w.heap.size + 4 ≤ Bx ∧ W.heap[Bx]? = some (.cells #[.int .i64 l[x].f0, .int .i64 l[x].f1, .int .i64 l[x].f2, .int .i64 l[x].f3, .string l[x].f4, .bool l[x].f5] 41 (0, 0)) ∧ a' = (⟨#[Value.pointer (some { block := gs, off := 0 }), Value.slice Ao xs.length co,
          Value.agg #[Value.int IntKind.i64 t, Value.int IntKind.i64 a],
          Value.pointer (some { block := w.heap.size, off := 0 }),
          Value.pointer (some { block := w.heap.size + 1, off := 0 }),
          Value.pointer (some { block := w.heap.size + 1 + 1, off := 0 }), Value.slice none 0 0, .int .i64 (x.1 : Int), .pointer (some { block := Bx, off := 0 }),
          Value.pointer (some { block := gs, off := 0 }), Value.pointer (some { block := gs, off := 0 }),
          Value.pointer (some { block := gs, off := 0 }), Value.slice A l.length c,
          Value.func (Fn.func 45) #[] #[Value.pointer (some { block := w.heap.size + 1 + 1 + 1, off := 0 })], .int .i64 (x.1 : Int),
          (atomV l[x]), undef, undef, undef, undef, undef, undef, undef, undef, undef, undef, undef, undef, undef], []⟩ : Act))
      (fun x a' _ X Y row hs hg hr => by obtain ⟨Bx, e1, e2, e3⟩ := hs; exact ⟨Bx, e1, blk_own e2 hg (fun r e => (hr r e).2), e3⟩)
      ?assign ?body ?done ?stop
    case hK =>
      rintro X B ⟨h1, h2⟩
      refine ⟨fun hx => ?_, fun hx => hx.trans h1⟩
      rw [← hx]
      simp only [World.cell?, h2]
    case hKb =>
      intro W l o o' hl hlo ho1 ho2
      exact ⟨belowK_b (w := W0) (by omega) W l o o' hl hlo ho1 ho2, (belowK_b (n₀ := W0.heap.size) (w := W0) (Nat.le_refl _) W l o o' hl hlo ho1 ho2).block _ (by omega)⟩
    case assign =>
      rintro lp pre x W K ⟨Ao1, k1, co1, hk1, h1, h2, h3, h4, h5, h6, h7⟩ hK
      have hI : OrdI l gs A c w0 w t a d xs pre W := ⟨Ao1, k1, co1, hk1, h1, h2, h3, h4, h5, h6, h7⟩
      have HK := mz hK
      have HI := mz hI
      clear hI hK HT IH HBe HId HC HX HCH HL HW HO HB4 HO4
      generalize l[x] = y at *
      gi_wp2
      exact HK.out _ _ ((KeepsOthers.alloc _ _).from _) ⟨(Below.refl _ W).alloc (Nat.le_trans hw0s h7.size) _, Below.heap_alloc _ _ _ h4.lt⟩ ((OrdI.own l gs A c w0 w t a d xs w.heap.size (Nat.le_refl _) hw0s).alloc _ HI.out) ⟨W.heap.size, by have := h4.lt; omega, World.alloc_heap_new W _, rfl⟩
    case body =>
      rintro lp pre x a' W hl _ hI ⟨Bx, hBx, bX, rfl⟩ hlt2
      have hsn := ordP_snoc l d t a pre x
      have hsh : (ordL l d l[x].f0 l[x].f1).length ≤ 6480 := HT.out.short d _ _ (by omega)
      have hpl := ordP_len HT.out d (by omega) t a pre
      have hl80 := HT.out.len
      have HIHx : Aside0 (l[x].f2 = t → l[x].f3 = a → 1 ≤ d ∧ ∀ j : Fin l.length, l[j].f2 = l[x].f0 → l[j].f3 = l[x].f1 → l.length ≤ j.1 + (d - 1)) := ⟨fun e1 e2 => by
        have h0 := HCH.out x e1 e2
        refine ⟨by omega, fun j e3 e4 => ?_⟩
        have := HT.out.lt x j e3 e4
        omega⟩
      obtain ⟨Ao1, k1, co1, hk1, h1, h2, h3, h4, h5, h6, h7⟩ := hI
      have hI : OrdI l gs A c w0 w t a d xs pre W := ⟨Ao1, k1, co1, hk1, h1, h2, h3, h4, h5, h6, h7⟩
      have HWs : w0.heap.size ≤ W.heap.size := Nat.le_trans hw0s h7.size
      have hWs3 : w.heap.size + 1 + 1 + 1 < W.heap.size := h4.lt
      have HI := mz hI
      have HBX := mz bX
      have HSN := mz hsn
      clear hI hsn h5 h6 h7
      generalize l[x] = y at *
      have x0 : W.drew.cell? ⟨Bx, 0, none⟩ = some (.int .i64 y.f0) := (blk_cell bX 0).trans rfl
      have x1 : W.drew.cell? ⟨Bx, 1, none⟩ = some (.int .i64 y.f1) := (blk_cell bX 1).trans rfl
      have x2 : W.drew.cell? ⟨Bx, 2, none⟩ = some (.int .i64 y.f2) := (blk_cell bX 2).trans rfl
      have x3 : W.drew.cell? ⟨Bx, 3, none⟩ = some (.int .i64 y.f3) := (blk_cell bX 3).trans rfl
      have x4 : W.drew.cell? ⟨Bx, 4, none⟩ = some (.string y.f4) := (blk_cell bX 4).trans rfl
      have x5 : W.drew.cell? ⟨Bx, 5, none⟩ = some (.bool y.f5) := (blk_cell bX 5).trans rfl
      have a0 : W.drew.cell? ⟨w.heap.size + 1 + 1, 0, none⟩ = some (.int .i64 t) := (blk_cell h3 0).trans rfl
      have a1 : W.drew.cell? ⟨w.heap.size + 1 + 1, 1, none⟩ = some (.int .i64 a) := (blk_cell h3 1).trans rfl
      clear bX h1 h2 h3
      refine wpIn_block ?_
      refine wpIn_seq_k fun K hK => ?_
      have HK := mz hK
      clear hK
      refine wpIn_region_held_drew (S := fun W' => W'.cell? ⟨Bx, 0, none⟩ = some (.int .i64 y.f0) ∧ W'.cell? ⟨Bx, 1, none⟩ = some (.int .i64 y.f1) ∧ W'.cell? ⟨Bx, 2, none⟩ = some (.int .i64 y.f2) ∧ W'.cell? ⟨Bx, 3, none⟩ = some (.int .i64 y.f3) ∧ W'.cell? ⟨Bx, 4, none⟩ = some (.string y.f4) ∧ W'.cell? ⟨Bx, 5, none⟩ = some (.bool y.f5) ∧ W'.cell? ⟨w.heap.size + 1 + 1, 0, none⟩ = some (.int .i64 t) ∧ W'.cell? ⟨w.heap.size + 1 + 1, 1, none⟩ = some (.int .i64 a)) rfl ?_
      have hHeld : (fun W' : World => W'.cell? ⟨Bx, 0, none⟩ = some (.int .i64 y.f0) ∧ W'.cell? ⟨Bx, 1, none⟩ = some (.int .i64 y.f1) ∧ W'.cell? ⟨Bx, 2, none⟩ = some (.int .i64 y.f2) ∧ W'.cell? ⟨Bx, 3, none⟩ = some (.int .i64 y.f3) ∧ W'.cell? ⟨Bx, 4, none⟩ = some (.string y.f4) ∧ W'.cell? ⟨Bx, 5, none⟩ = some (.bool y.f5) ∧ W'.cell? ⟨w.heap.size + 1 + 1, 0, none⟩ = some (.int .i64 t) ∧ W'.cell? ⟨w.heap.size + 1 + 1, 1, none⟩ = some (.int .i64 a)) W.drew := ⟨x0, x1, x2, x3, x4, x5, a0, a1⟩
      clear x0 x1 x2 x3 x4 x5 a0 a1
      refine' tIn 0 ?_
      refine' tIn 2 ?_
      refine wpAnyHIn_one (i := 1) (by kernel_rfl) (by rfl) (by rfl) fun K' hK' => ?_
      go_simp
      refine ⟨(HBe.out 0 y W).1, fun _ => by omega, (CallsIn.inRound lp (HBe.out _ y _)).mono ?_⟩
      rintro e w4 ⟨rfl, hb4⟩
      dsimp only
      refine hK'.out _ _ (.inr ⟨cell_step hHeld.1 hb4, cell_step hHeld.2.1 hb4, cell_step hHeld.2.2.1 hb4, cell_step hHeld.2.2.2.1 hb4, cell_step hHeld.2.2.2.2.1 hb4, cell_step hHeld.2.2.2.2.2.1 hb4, cell_step hHeld.2.2.2.2.2.2.1 hb4, cell_step hHeld.2.2.2.2.2.2.2 hb4⟩) ?_
      clear hK' K'
      have hHeld4 : (fun W' : World => W'.cell? ⟨Bx, 0, none⟩ = some (.int .i64 y.f0) ∧ W'.cell? ⟨Bx, 1, none⟩ = some (.int .i64 y.f1) ∧ W'.cell? ⟨Bx, 2, none⟩ = some (.int .i64 y.f2) ∧ W'.cell? ⟨Bx, 3, none⟩ = some (.int .i64 y.f3) ∧ W'.cell? ⟨Bx, 4, none⟩ = some (.string y.f4) ∧ W'.cell? ⟨Bx, 5, none⟩ = some (.bool y.f5) ∧ W'.cell? ⟨w.heap.size + 1 + 1, 0, none⟩ = some (.int .i64 t) ∧ W'.cell? ⟨w.heap.size + 1 + 1, 1, none⟩ = some (.int .i64 a)) w4 := ⟨cell_step hHeld.1 hb4, cell_step hHeld.2.1 hb4, cell_step hHeld.2.2.1 hb4, cell_step hHeld.2.2.2.1 hb4, cell_step hHeld.2.2.2.2.1 hb4, cell_step hHeld.2.2.2.2.2.1 hb4, cell_step hHeld.2.2.2.2.2.2.1 hb4, cell_step hHeld.2.2.2.2.2.2.2 hb4⟩
      clear hHeld
      have hbW : Below W.heap.size W w4 := below_step (below_drew1 (Below.refl _ W)) hb4
      have hG4 : W.grownBy w4 none := ⟨hbW.os, hbW.tape, hbW.output, hbW.size, fun k hk _ => hbW.block k hk⟩
      have HI4 := mz (OrdI.own l gs A c w0 w t a d xs w.heap.size (Nat.le_refl _) hw0s pre W w4 none HI.out hG4 (fun r e => by cases e))
      have BX4 := mz (blk_own HBX.out hG4 (fun r e => by cases e))
      have HKF := mz (keepsFrom_below (B := w.heap.size + 4) hbW (Nat.le_refl _))
      have HBW := mz hbW
      clear hbW hb4 hG4 HI HBX
      (try simp only [Act.put, List.getElem_toArray, List.getElem_cons_succ, List.getElem_cons_zero, List.setIfInBounds_toArray, List.set_cons_zero, List.set_cons_succ])
      refine' tIn 3 ?_
      refine wpAnyHIn_done (by kernel_rfl) ?_ _
      simp only [Exit.then]
      refine HK.out _ _ ?_
      clear HK K hHeld4
      cases hq : (y.f2 == t && (y.f3 == a)) with
      | false =>
        refine wpIn_cond_false (by rfl) ?_
        refine wpIn_skip ?_
        simp only [Exit.inBlock]
        obtain ⟨Ao4, k4, co4, hk4, h1, h2, h3, h4, h5, h6, h7⟩ := HI4.out
        have e5 : ordP l d t a (pre ++ [x]) = ordP l d t a pre := by rw [HSN.out, hq]; simp
        exact ⟨by rw [hsz]; exact HKF.out, ⟨HBW.out.mono HWs, HBW.out.block _ hWs3⟩, Ao4, k4, co4, by rw [e5]; exact hk4, h1, h2, h3, h4, by rw [e5]; exact h5, h6, h7⟩
      | true =>
        refine wpIn_cond_true (by rfl) ?_
        obtain ⟨q1, q2⟩ : y.f2 = t ∧ y.f3 = a := by simpa using hq
        obtain ⟨hd1, hch2⟩ := HIHx.out q1 q2
        obtain ⟨m, rfl⟩ : ∃ m, d = m + 1 := ⟨d - 1, by omega⟩
        have e5 : ordP l (m + 1) t a (pre ++ [x]) = ordP l (m + 1) t a pre ++ ((x.1 : Int) :: ordL l (m + 1) y.f0 y.f1) := by rw [HSN.out, hq]; simp
        have E5 := mz e5
        have HCH2 := mz hch2
        clear hch2 e5 HIHx HSN HCH hq q1 q2
        obtain ⟨Ao4, k4, co4, hk4, h1, h2, h3, h4, h5, h6, h7⟩ := HI4.out
        have HK4 := mz hk4
        have H5 := mz h5
        have H6 := mz h6
        have H7 := mz h7
        clear hk4 h5 h6 h7 HI4
        have hS : (fun W' : World => W'.cell? ⟨w.heap.size, 0, none⟩ = some (.pointer (some ⟨gs, 0, none⟩)) ∧ W'.cell? ⟨w.heap.size + 1, 0, none⟩ = some (.slice Ao4 k4 co4) ∧ W'.cell? ⟨Bx, 0, none⟩ = some (.int .i64 y.f0) ∧ W'.cell? ⟨Bx, 1, none⟩ = some (.int .i64 y.f1) ∧ W'.cell? ⟨Bx, 2, none⟩ = some (.int .i64 y.f2) ∧ W'.cell? ⟨Bx, 3, none⟩ = some (.int .i64 y.f3) ∧ W'.cell? ⟨Bx, 4, none⟩ = some (.string y.f4) ∧ W'.cell? ⟨Bx, 5, none⟩ = some (.bool y.f5)) w4.drew := ⟨(blk_cell (w := w4) h1 0).trans rfl, (blk_cell (w := w4) h2 0).trans rfl, (blk_cell BX4.out 0).trans rfl, (blk_cell BX4.out 1).trans rfl, (blk_cell BX4.out 2).trans rfl, (blk_cell BX4.out 3).trans rfl, (blk_cell BX4.out 4).trans rfl, (blk_cell BX4.out 5).trans rfl⟩
        refine wpIn_region_held_drew (S := fun W' => W'.cell? ⟨w.heap.size, 0, none⟩ = some (.pointer (some ⟨gs, 0, none⟩)) ∧ W'.cell? ⟨w.heap.size + 1, 0, none⟩ = some (.slice Ao4 k4 co4) ∧ W'.cell? ⟨Bx, 0, none⟩ = some (.int .i64 y.f0) ∧ W'.cell? ⟨Bx, 1, none⟩ = some (.int .i64 y.f1) ∧ W'.cell? ⟨Bx, 2, none⟩ = some (.int .i64 y.f2) ∧ W'.cell? ⟨Bx, 3, none⟩ = some (.int .i64 y.f3) ∧ W'.cell? ⟨Bx, 4, none⟩ = some (.string y.f4) ∧ W'.cell? ⟨Bx, 5, none⟩ = some (.bool y.f5)) rfl ?_
        refine' tIn 0 ?_
        refine' tIn 1 ?_
        refine' tIn 2 ?_
        refine' tIn 5 ?_
        refine wpAnyHIn_one (i := 3) (by kernel_rfl) (by rfl) (by rfl) fun K3 hK3 => ?_
        go_simp
        have p0 : (w4.alloc (.cells #[.int .i64 (x.1 : Int)] 3)).drew.heap[w.heap.size]? = some (.cells #[.pointer (some ⟨gs, 0, none⟩)] 60 (0, 0)) := (Below.heap_alloc w4 _ _ h1.lt).trans h1
        have p1 : (w4.alloc (.cells #[.int .i64 (x.1 : Int)] 3)).drew.heap[w.heap.size + 1]? = some (.cells #[.slice Ao4 k4 co4] 38 (0, 0)) := (Below.heap_alloc w4 _ _ h2.lt).trans h2
        have pX := (Below.heap_alloc w4 (.cells #[.int .i64 (x.1 : Int)] 3) _ (Array.getElem?_eq_some_iff.1 BX4.out).1).trans BX4.out
        have hS3 : (fun W' : World => W'.cell? ⟨w.heap.size, 0, none⟩ = some (.pointer (some ⟨gs, 0, none⟩)) ∧ W'.cell? ⟨w.heap.size + 1, 0, none⟩ = some (.slice Ao4 k4 co4) ∧ W'.cell? ⟨Bx, 0, none⟩ = some (.int .i64 y.f0) ∧ W'.cell? ⟨Bx, 1, none⟩ = some (.int .i64 y.f1) ∧ W'.cell? ⟨Bx, 2, none⟩ = some (.int .i64 y.f2) ∧ W'.cell? ⟨Bx, 3, none⟩ = some (.int .i64 y.f3) ∧ W'.cell? ⟨Bx, 4, none⟩ = some (.string y.f4) ∧ W'.cell? ⟨Bx, 5, none⟩ = some (.bool y.f5)) (w4.alloc (.cells #[.int .i64 (x.1 : Int)] 3)).drew := ⟨(blk_cell p0 0).trans rfl, (blk_cell p1 0).trans rfl, (blk_cell (w := (w4.alloc (.cells #[.int .i64 (x.1 : Int)] 3))) pX 0).trans rfl, (blk_cell (w := (w4.alloc (.cells #[.int .i64 (x.1 : Int)] 3))) pX 1).trans rfl, (blk_cell (w := (w4.alloc (.cells #[.int .i64 (x.1 : Int)] 3))) pX 2).trans rfl, (blk_cell (w := (w4.alloc (.cells #[.int .i64 (x.1 : Int)] 3))) pX 3).trans rfl, (blk_cell (w := (w4.alloc (.cells #[.int .i64 (x.1 : Int)] 3))) pX 4).trans rfl, (blk_cell (w := (w4.alloc (.cells #[.int .i64 (x.1 : Int)] 3))) pX 5).trans rfl⟩
        refine hK3.out _ _ (.inr hS3) ?_
        clear hK3 K3
        (try simp only [Act.put, List.getElem_toArray, List.getElem_cons_succ, List.getElem_cons_zero, List.setIfInBounds_toArray, List.set_cons_zero, List.set_cons_succ])
        refine wpAnyHIn_one (i := 4) (by kernel_rfl) (by rfl) (by rfl) fun K4 hK4 => ?_
        clear hS3 hS
        have hk4 := HK4.out
        rw [List.length_append] at hk4
        have hL := HL.out
        have hkb : k4 ≤ xs.length + 80 * 6481 := by
          have : pre.length * 6481 ≤ 80 * 6481 := Nat.mul_le_mul_right _ (by omega)
          omega
        have hrow3 : (w4.alloc (.cells #[.int .i64 (x.1 : Int)] 3)).drew.ownsRow w0.heap.size 3 1 (.slice Ao4 k4 co4) k4 (ints (xs ++ ordP l (m + 1) t a pre)) := H5.out.alloc _
        have hsz4 : w0.heap.size ≤ (w4.alloc (.cells #[.int .i64 (x.1 : Int)] 3)).drew.heap.size := Nat.le_trans HWs (Nat.le_trans HBW.out.size (by show w4.heap.size ≤ (w4.alloc _).heap.size; simp))
        have HRow3 := mz hrow3
        clear hrow3
        obtain ⟨i0, hi, hz0, hz1, hz2⟩ := info_parts info3
        refine wpIn_append_own _ (.tmp 21) (.tmp 23) 38 rfl w0.heap.size 3 i0 (.int .i64 0) 1 8 Try.underlying38 hi hz0 hz1 hz2 rfl (by decide) _ k4 _ rfl HRow3.out ⟨w4.heap.size, 0, none⟩ 1 1 [.int .i64 (x.1 : Int)] rfl rfl (cell_one_new w4 _ _) (by simp [Value.oneCell']) (by simp only [maxLen]; omega) (by omega) hsz4 ?_
        intro v6 w6 hown6 hg6 _
        have hk6 : k4 + 1 = (xs ++ ordP l (m + 1) t a pre ++ [(x.1 : Int)]).length := by rw [HK4.out]; simp; omega
        have ek6 : ints (xs ++ ordP l (m + 1) t a pre) ++ [Value.int .i64 (x.1 : Int)] = ints (xs ++ ordP l (m + 1) t a pre ++ [(x.1 : Int)]) := by simp [ints]
        rw [ek6] at hown6
        have hxl : (xs ++ ordP l (m + 1) t a pre ++ [(x.1 : Int)]).length + 1000000 * (m + 1) ≤ 1000000000 := by rw [← hk6]; exact ord_bound hL hkb
        have e8 : xs ++ ordP l (m + 1) t a (pre ++ [x]) = xs ++ ordP l (m + 1) t a pre ++ [(x.1 : Int)] ++ ordL l (m + 1) y.f0 y.f1 := by rw [E5.out]; simp
        have hb3 : Below w0.heap.size w0 (w4.alloc (.cells #[.int .i64 (x.1 : Int)] 3)).drew := below_drew1 (H6.out.alloc (Nat.le_trans HWs HBW.out.size) _)
        have HB6 := mz (hb3.grown hg6 hsz4 (fun k e => (HRow3.out.lt k e).1))
        have HKF6 := mz (((HKF.out.trans ((KeepsOthers.alloc w4 (.cells #[.int .i64 (x.1 : Int)] 3)).from _)).trans ((KeepsOthers.drew _).from _)).trans ((KeepsT.of_grown hg6 HRow3.out).others.from _))
        have KT36 : Aside0 (KeepsT 3 w4 w6) := ⟨(((KeepsT.of_below (below_drew1 ((Below.refl _ w4).alloc (Nat.le_refl _) _)) (Nat.le_refl _)).trans (KeepsT.of_grown hg6 HRow3.out)))⟩
        have HB46 : Aside0 (Below w0.heap.size w4 w6) := ⟨(below_drew1 ((Below.refl w0.heap.size w4).alloc (Nat.le_trans HWs HBW.out.size) _)).grown hg6 hsz4 (fun k e => (HRow3.out.lt k e).1)⟩
        generalize xs ++ ordP l (m + 1) t a pre ++ [(x.1 : Int)] = xs6 at hown6 hk6 hxl e8
        have HXL := mz hxl
        have E8 := mz e8
        clear hb3 hxl e8
        obtain ⟨g6, c6, rfl⟩ := ownsRow_succ hown6
        rw [hk6] at hown6 ⊢
        have KT6 := KeepsT.of_grown hg6 HRow3.out
        have q0 := KT6.blk p0 (by decide)
        have q1 := KT6.blk p1 (by decide)
        have qX := KT6.blk (W := (w4.alloc (.cells #[.int .i64 (x.1 : Int)] 3)).drew) pX (by decide)
        have hS6 : (fun W' : World => W'.cell? ⟨w.heap.size, 0, none⟩ = some (.pointer (some ⟨gs, 0, none⟩)) ∧ W'.cell? ⟨w.heap.size + 1, 0, none⟩ = some (.slice Ao4 k4 co4) ∧ W'.cell? ⟨Bx, 0, none⟩ = some (.int .i64 y.f0) ∧ W'.cell? ⟨Bx, 1, none⟩ = some (.int .i64 y.f1) ∧ W'.cell? ⟨Bx, 2, none⟩ = some (.int .i64 y.f2) ∧ W'.cell? ⟨Bx, 3, none⟩ = some (.int .i64 y.f3) ∧ W'.cell? ⟨Bx, 4, none⟩ = some (.string y.f4) ∧ W'.cell? ⟨Bx, 5, none⟩ = some (.bool y.f5)) w6 := ⟨(blk_cell (w := w6) q0 0).trans rfl, (blk_cell (w := w6) q1 0).trans rfl, (blk_cell (w := w6) qX 0).trans rfl, (blk_cell (w := w6) qX 1).trans rfl, (blk_cell (w := w6) qX 2).trans rfl, (blk_cell (w := w6) qX 3).trans rfl, (blk_cell (w := w6) qX 4).trans rfl, (blk_cell (w := w6) qX 5).trans rfl⟩
        refine hK4.out _ _ (.inr hS6) ?_
        clear hK4 K4
        (try simp only [Act.put, List.getElem_toArray, List.getElem_cons_succ, List.getElem_cons_zero, List.setIfInBounds_toArray, List.set_cons_zero, List.set_cons_succ])
        refine wpAnyHIn_one (i := 6) (by kernel_rfl) (by rfl) (by rfl) fun K6 hK6 => ?_
        have HO6 := mz hown6
        have HG6 := mz hg6
        have KT6A := mz KT6
        clear hown6 hg6 KT6 hk6 ek6 hi hz0 hz1 hz2 hk4 hkb hL p0 p1 pX
        go_simp
        refine ⟨(HId.out 0 y w6).1, fun _ => by omega, (CallsIn.inRound lp (HId.out _ y _)).mono ?_⟩
        rintro e w7 ⟨rfl, hb7⟩
        dsimp only
        have KT7 : KeepsT 3 w6 w7 := KeepsT.of_below hb7 (Nat.le_refl _)
        have r0 := KT7.blk q0 (by decide)
        have r1 := KT7.blk q1 (by decide)
        have rX := KT7.blk qX (by decide)
        have hS7 : (fun W' : World => W'.cell? ⟨w.heap.size, 0, none⟩ = some (.pointer (some ⟨gs, 0, none⟩)) ∧ W'.cell? ⟨w.heap.size + 1, 0, none⟩ = some (.slice Ao4 k4 co4) ∧ W'.cell? ⟨Bx, 0, none⟩ = some (.int .i64 y.f0) ∧ W'.cell? ⟨Bx, 1, none⟩ = some (.int .i64 y.f1) ∧ W'.cell? ⟨Bx, 2, none⟩ = some (.int .i64 y.f2) ∧ W'.cell? ⟨Bx, 3, none⟩ = some (.int .i64 y.f3) ∧ W'.cell? ⟨Bx, 4, none⟩ = some (.string y.f4) ∧ W'.cell? ⟨Bx, 5, none⟩ = some (.bool y.f5)) w7 := ⟨(blk_cell (w := w7) r0 0).trans rfl, (blk_cell (w := w7) r1 0).trans rfl, (blk_cell (w := w7) rX 0).trans rfl, (blk_cell (w := w7) rX 1).trans rfl, (blk_cell (w := w7) rX 2).trans rfl, (blk_cell (w := w7) rX 3).trans rfl, (blk_cell (w := w7) rX 4).trans rfl, (blk_cell (w := w7) rX 5).trans rfl⟩
        refine hK6.out _ _ (.inr hS7) ?_
        have HO7 := mz (HO6.out.kept (row := none) ⟨hb7.os, hb7.tape, hb7.output, hb7.size, fun k hk _ => hb7.block k hk⟩ (.inr (by simp [Value.ownBlock])))
        have HB7 := mz hb7
        have KT7A := mz KT7
        clear hK6 K6 hb7 KT7 q0 q1 qX hS6
        (try simp only [Act.put, List.getElem_toArray, List.getElem_cons_succ, List.getElem_cons_zero, List.setIfInBounds_toArray, List.set_cons_zero, List.set_cons_succ])
        refine wpAnyHIn_one (i := 7) (by kernel_rfl) (by rfl) (by rfl) fun K7 hK7 => ?_
        go_simp
        have hw07 : Below w0.heap.size w0 w7 := HB6.out.trans (HB7.out.mono HB6.out.size)
        refine ⟨fun _ => by omega, (CallsIn.inRound lp (IH.out m (by omega) (by omega) (n - 1 - 1 - 1) (by omega) y.f0 y.f1 HCH2.out xs6 HXL.out (some ⟨g6, 0, none⟩) c6 w7 hw07 HO7.out)).mono ?_⟩
        rintro e w8 ⟨Ao8, co8, rfl, hown8, hKT8, hB8⟩
        dsimp only
        rw [← E8.out] at hown8 ⊢
        have s0 := hKT8.blk r0 (by decide)
        have s1 := hKT8.blk r1 (by decide)
        have sX := hKT8.blk rX (by decide)
        have hS8 : (fun W' : World => W'.cell? ⟨w.heap.size, 0, none⟩ = some (.pointer (some ⟨gs, 0, none⟩)) ∧ W'.cell? ⟨w.heap.size + 1, 0, none⟩ = some (.slice Ao4 k4 co4) ∧ W'.cell? ⟨Bx, 0, none⟩ = some (.int .i64 y.f0) ∧ W'.cell? ⟨Bx, 1, none⟩ = some (.int .i64 y.f1) ∧ W'.cell? ⟨Bx, 2, none⟩ = some (.int .i64 y.f2) ∧ W'.cell? ⟨Bx, 3, none⟩ = some (.int .i64 y.f3) ∧ W'.cell? ⟨Bx, 4, none⟩ = some (.string y.f4) ∧ W'.cell? ⟨Bx, 5, none⟩ = some (.bool y.f5)) w8 := ⟨(blk_cell (w := w8) s0 0).trans rfl, (blk_cell (w := w8) s1 0).trans rfl, (blk_cell (w := w8) sX 0).trans rfl, (blk_cell (w := w8) sX 1).trans rfl, (blk_cell (w := w8) sX 2).trans rfl, (blk_cell (w := w8) sX 3).trans rfl, (blk_cell (w := w8) sX 4).trans rfl, (blk_cell (w := w8) sX 5).trans rfl⟩
        refine hK7.out _ _ (.inr hS8) ?_
        clear hK7 K7 r0 r1 rX hS7
        have HO8 := mz hown8
        have HKT8 := mz hKT8
        have HB8 := mz hB8
        have HW07 := mz hw07
        clear hown8 hKT8 hB8 hw07
        generalize hx8 : xs ++ ordP l (m + 1) t a (pre ++ [x]) = xs8 at *
        have HX8 := mz hx8
        clear hx8
        (try simp only [Act.put, List.getElem_toArray, List.getElem_cons_succ, List.getElem_cons_zero, List.setIfInBounds_toArray, List.set_cons_zero, List.set_cons_succ])
        refine wpAnyHIn_one (i := 8) (by kernel_rfl) (by rfl) (by rfl) fun K8 hK8 => ?_
        have c8 := hS8.2.1
        have f8 := blk_frozen s1 0
        have S1 := mz s1
        clear hS8 s0 s1 sX
        go_simp
        refine hK8.out _ _ (.inl (by kernel_rfl)) ?_
        clear hK8 K8 c8 f8
        refine wpAnyHIn_done (by kernel_rfl) ?_ _
        simp only [Exit.inBlock]
        have KT68 : KeepsT 3 w4 w8 := (KT36.out.trans KT7A.out).trans HKT8.out
        have y0 := blk_set_other (KT68.blk h1 (by decide)) (show w.heap.size ≠ w.heap.size + 1 by omega) (.slice Ao8 xs8.length co8)
        have y1 := Boxed.set (.slice Ao8 xs8.length co8) (show Boxed w8 (w.heap.size + 1) 38 (.slice Ao4 k4 co4) from S1.out)
        have y2 := blk_set_other (KT68.blk h3 (by decide)) (show w.heap.size + 1 + 1 ≠ w.heap.size + 1 by omega) (.slice Ao8 xs8.length co8)
        have y3 := blk_set_other (KT68.blk h4 (by decide)) (show w.heap.size + 1 + 1 + 1 ≠ w.heap.size + 1 by omega) (.slice Ao8 xs8.length co8)
        have hB78 : Below w0.heap.size w6 w8 := (HB7.out.mono HB6.out.size).trans HB8.out
        have hB48 : Below w0.heap.size w4 w8 := HB46.out.trans hB78
        have hp1 : w0.heap.size ≤ (⟨w.heap.size + 1, 0, none⟩ : Addr).block := by show w0.heap.size ≤ w.heap.size + 1; omega
        refine ⟨?_, ⟨((HBW.out.mono HWs).trans hB48).setCell hp1 _, ?_⟩, Ao8, xs8.length, co8, by rw [HX8.out], y0, y1, y2, y3, ?_, (H6.out.trans hB48).setCell hp1 _, (H7.out.trans KT68).step (grownBy_setCell' w8 (w.heap.size + 1) _) (fun r e => by cases e; omega)⟩
        · rw [hsz]
          exact ((HKF6.out.trans (KT7A.out.others.from _)).trans (HKT8.out.others.from _)).trans ((KeepsOthers.setCell _ _ _).from _)
        · exact Eq.trans y3 (Eq.trans (Eq.symm h4) (HBW.out.block _ hWs3))
        · rw [HX8.out]
          exact HO8.out.kept (grownBy_setCell' w8 (w.heap.size + 1) _) (.inr (Boxed.not_row (show Boxed w8 (w.heap.size + 1) 38 (.slice Ao4 k4 co4) from S1.out) (by decide) HO8.out).symm)
    case done =>
      rintro D zs W hD rfl ⟨Ao1, k1, co1, hk1, h1, h2, h3, h4, h5, h6, h7⟩ hK
      have c2 := h2.cell
      have HK1 := mz hk1
      have H5 := mz h5
      have H6 := mz h6
      have H7 := mz h7
      clear hk1 h5 h6 h7
      gi_wp2
      refine ⟨by simp, .inl ⟨_, _, rfl, run_takeDeferred hK, ?_⟩⟩
      have e9 : xs ++ ordL l (d + 1) t a = xs ++ ordP l d t a (backs l.length l.length) := rfl
      have hb9 : Below w0.heap.size w0 (W.putObj D (.deferred none)) := H6.out.trans (belowK_b (w := w0) (Nat.le_refl _) W D _ _ (by omega) hK rfl rfl)
      refine ⟨_, results_tmp rfl _ _ _, Ao1, co1, ?_, ?_, ?_, ?_⟩
      · rw [e9, ← HK1.out]; rfl
      · rw [e9, ← HK1.out]; exact ownsRow_putObj H5.out _ hK rfl
      · exact H7.out.step (grownBy_putObj' W D _) (fun r e => by cases e; omega)
      · exact below_mid hw0 hb9 (H7.out.step (grownBy_putObj' W D _) (fun r e => by cases e; omega)).size
    case stop =>
      rintro D c pre W _ _ h _
      exact h.elim
end
end Go.Proofs.Ytejilfaioooabaa.X
namespace Go.Proofs.Ytejilfaioooabaa.X
open Go.RowKit Go.Proofs.YtejilfaioooabaaW.PrintWords Go.Proofs.YtejilfaioooabaaW.PrintLast Go.Proofs.YtejilfaioooabaaW.PrintMore
theorem nodup_sub {α : Type} [BEq α] [LawfulBEq α] : ∀ (a b : List α), a.Nodup → (∀ x ∈ a, x ∈ b) → a.length ≤ b.length
  | [], _, _, _ => Nat.zero_le _
  | x :: a, b, h, hs => by
    obtain ⟨h1, h2⟩ := List.nodup_cons.1 h
    have hx : x ∈ b := hs x List.mem_cons_self
    have h3 := nodup_sub a (b.erase x) h2 (fun y hy => (List.mem_erase_of_ne (fun (e : y = x) => h1 (e ▸ hy))).2 (hs y (List.mem_cons_of_mem _ hy)))
    rw [List.length_erase_of_mem hx] at h3
    have : 0 < b.length := List.length_pos_of_mem hx
    simp only [List.length_cons]
    omega
theorem nodup_flat {α β : Type} (K : α → List β) : ∀ (M : List α), M.Nodup → (∀ i ∈ M, (K i).Nodup) → (∀ i ∈ M, ∀ j ∈ M, i ≠ j → ∀ x, x ∈ K i → x ∈ K j → False) → (M.flatMap K).Nodup
  | [], _, _, _ => by simp
  | i :: M, h, h1, h2 => by
    obtain ⟨h3, h4⟩ := List.nodup_cons.1 h
    rw [List.flatMap_cons, List.nodup_append]
    refine ⟨h1 i List.mem_cons_self, nodup_flat K M h4 (fun j hj => h1 j (List.mem_cons_of_mem _ hj)) (fun a ha b hb => h2 a (List.mem_cons_of_mem _ ha) b (List.mem_cons_of_mem _ hb)), fun a ha b hb e => ?_⟩
    subst e
    obtain ⟨j, hj, hb2⟩ := List.mem_flatMap.1 hb
    exact h2 i List.mem_cons_self j (List.mem_cons_of_mem _ hj) (fun e => h3 (e ▸ hj)) a ha hb2
theorem backs_nodup (n : Nat) : (backs n n).Nodup := by
  unfold backs
  refine List.Nodup.sublist (List.take_sublist _ _) ?_
  exact (List.pairwise_reverse.2 ((List.nodup_finRange n).imp (fun h => h.symm)))

def kidsA (l : List Atom) (t a : Int) : List (Fin l.length) := (backs l.length l.length).filter fun i => l[i].f2 == t && (l[i].f3 == a)
theorem flat_len {α : Type} (p : α → Bool) (v : α → Int) (g : α → List Int) : ∀ L : List α, (L.flatMap fun i => if p i = true then v i :: g i else []).length = ((L.filter p).map fun i => 1 + (g i).length).sum
  | [] => rfl
  | x :: L => by
    have ih := flat_len p v g L
    rw [List.flatMap_cons, List.length_append, ih, List.filter_cons]
    cases h : p x
    · simp
    · simp; omega
theorem ordL_len (l : List Atom) (d : Nat) (t a : Int) : (ordL l (d + 1) t a).length = ((kidsA l t a).map fun i => 1 + (ordL l d l[i].f0 l[i].f1).length).sum :=
  flat_len (fun i : Fin l.length => l[i].f2 == t && (l[i].f3 == a)) (fun i => (i.1 : Int)) (fun i => ordL l d l[i].f0 l[i].f1) _
theorem sum_flat {α β : Type} (K : α → List β) (f : β → Nat) : ∀ M : List α, ((M.flatMap K).map f).sum = (M.map fun i => ((K i).map f).sum).sum
  | [] => rfl
  | i :: M => by simp [List.flatMap_cons, sum_flat K f M]
theorem sum_one {α : Type} (f : α → Nat) : ∀ M : List α, (M.map fun i => 1 + f i).sum = M.length + (M.map f).sum
  | [] => rfl
  | i :: M => by simp only [List.map_cons, List.sum_cons, List.length_cons, sum_one f M]; omega

def Apart (l : List Atom) : Prop := ∀ i j : Fin l.length, l[i].f0 = l[j].f0 → l[i].f1 = l[j].f1 → i = j
theorem ord_short {l : List Atom} (hA : Apart l) (d : Nat) : ∀ M : List (Fin l.length), M.Nodup → (M.map fun i => 1 + (ordL l d l[i].f0 l[i].f1).length).sum ≤ l.length * (d + 1) := by
  have hcard : ∀ M : List (Fin l.length), M.Nodup → M.length ≤ l.length := fun M hM => by
    have := nodup_sub M (List.finRange l.length) hM (fun x _ => List.mem_finRange x)
    rwa [List.length_finRange] at this
  induction d with
  | zero =>
    intro M hM
    have e : (M.map fun i => 1 + (ordL l 0 l[i].f0 l[i].f1).length).sum = M.length := by
      rw [sum_one]
      have e0 : ∀ L : List (Fin l.length), (L.map fun i => (ordL l 0 l[i].f0 l[i].f1).length).sum = 0 := fun L => by
        induction L with
        | nil => rfl
        | cons i L ih => rw [List.map_cons, List.sum_cons, ih]; rfl
      rw [e0, Nat.add_zero]
    rw [e]
    simpa using hcard M hM
  | succ d ih =>
    intro M hM
    rw [sum_one]
    have e : (M.map fun i => (ordL l (d + 1) l[i].f0 l[i].f1).length) = M.map fun i => (((kidsA l l[i].f0 l[i].f1).map fun j => 1 + (ordL l d l[j].f0 l[j].f1).length)).sum :=
      List.map_congr_left fun i _ => ordL_len l d _ _
    rw [e, ← sum_flat (fun i : Fin l.length => kidsA l l[i].f0 l[i].f1) (fun j => 1 + (ordL l d l[j].f0 l[j].f1).length)]
    have h1 := hcard M hM
    have h2 := ih (M.flatMap fun i : Fin l.length => kidsA l l[i].f0 l[i].f1) (nodup_flat _ M hM (fun i _ => (backs_nodup _).sublist List.filter_sublist) (fun i _ j _ hne x hx hy => by
      have hx2 := (List.mem_filter.1 hx).2
      have hy2 := (List.mem_filter.1 hy).2
      simp only [Bool.and_eq_true, beq_iff_eq] at hx2 hy2
      exact hne (hA i j (hx2.1.symm.trans hy2.1) (hx2.2.symm.trans hy2.2))))
    have e3 : l.length * (d + 1 + 1) = l.length * (d + 1) + l.length := Nat.mul_succ _ _
    omega
theorem tree_of_good {l : List Atom} (h : goodS l = true) : Tree l ∧ Apart l := by
  have hI : goodI l = true := by rw [goodI_eq]; exact h
  obtain ⟨h80, _, hst⟩ := goodS_of h
  have hr := rising l hst
  have hrise : ∀ i j : Fin l.length, i.1 < j.1 → l[i].f0 < l[j].f0 ∨ (l[i].f0 = l[j].f0 ∧ l[i].f1 < l[j].f1) := by
    intro i j hij
    have := hr (j.1 - i.1 - 1) i.1 (by omega)
    simp only [show i.1 + (j.1 - i.1 - 1) + 1 = j.1 by omega] at this
    exact lessB_iff.1 this
  have hab : ∀ i : Fin l.length, l[i].f2 < l[i].f0 := by
    intro i
    simp only [goodI, Bool.and_eq_true, decide_eq_true_eq, fromB_iff] at hI
    have := hI.2 i.1 i.2
    simp only [Nat.zero_add, atomI, Bool.and_eq_true, decide_eq_true_eq] at this
    exact this.1.2
  have hA : Apart l := by
    intro i j e1 e2
    rcases Nat.lt_trichotomy i.1 j.1 with hlt | heq | hgt
    · have := hrise i j hlt; omega
    · exact Fin.ext heq
    · have := hrise j i hgt; omega
  refine ⟨⟨h80, fun i j e1 e2 => ?_, fun d t a hd => ?_⟩, hA⟩
  · have hj := hab j
    rcases Nat.lt_trichotomy i.1 j.1 with hlt | heq | hgt
    · exact hlt
    · obtain rfl := Fin.ext heq
      omega
    · have := hrise j i hgt; omega
  · cases d with
    | zero => simp [ordL]
    | succ d =>
      rw [ordL_len]
      have h1 := ord_short hA d (kidsA l t a) ((backs_nodup _).sublist List.filter_sublist)
      have h2 : l.length * (d + 1) ≤ 80 * 81 := Nat.mul_le_mul h80 hd
      omega
def ordT (l : List Atom) : List Int := ordL l 81 0 0
theorem order_walk (l : List Atom) (hT : Tree l) (gs : Nat) (A : Option Addr) (c : Nat) (w : World) (hbox : w.heap[gs]? = some (.cells #[.slice A l.length c] 28 (0, 0))) (hC : Kd.C k41 w A l.length l) (hc : l.length ≤ c) :
    Calls Try.prog 35 #[.pointer (some ⟨gs, 0, none⟩), .slice none 0 0, .agg #[.int .i64 0, .int .i64 0]] w fun e W' => ∃ Ao co, e = .returned (.slice Ao (ordT l).length co) ∧ Kd.R (Kd.int .i64) 3 W' w.heap.size (fun _ => True) (.slice Ao (ordT l).length co) (ordT l) ∧ Below w.heap.size w W' := by
  rw [← callsIn_wide (n := 400)]
  refine (order_in Fence.wide rfl trivial trivial trivial (fun n y W => callsIn_wide.2 (impl_Atom_behind.calls y.f0 y.f1 y.f2 y.f3 y.f4 y.f5 _ _ W (behind_val y))) (fun n y W => callsIn_wide.2 (impl_Atom_id.calls y.f0 y.f1 y.f2 y.f3 y.f4 y.f5 _ _ W (id_val y)))
    l hT gs A c w hbox hC hc 80 (Nat.le_refl _) 400 (by omega) 0 0 (fun j _ _ => by have := hT.len; omega) [] (by simp) none 0 w (Below.refl _ _) (World.ownsRow_nil _ _ _ _)).mono ?_
  rintro e W' ⟨Ao, co, rfl, hown, _, hB⟩
  rw [List.nil_append] at hown ⊢
  exact ⟨Ao, co, rfl, Kd.R_of_own hown (fun _ _ => trivial), hB⟩
def lDel_ren : Go.Shelf.Ren := ⟨fun | 10 => 34 | 6 => 43 | n => n, fun | 22 => 38 | 23 => 3 | 25 => 63 | 3 => 3 | 4 => 4 | 0 => 0 | n => n, fun | n => n⟩
theorem lDel : Go.Proofs.SlLaysH.n10 Try.prog lDel_ren := {
  mixed := by kernel_rfl
  f6 := ⟨Try.f43.name, by decide, Try.func43.trans (congrArg some (by kernel_rfl))⟩
  f10 := ⟨Try.f34.name, by decide, Try.func34.trans (congrArg some (by kernel_rfl))⟩
  t0 := Try.underlying0
  a0 := Try.isAgg0
  z0 := Try.sizeOf0
  v0 := Try.zeroValue0
  t3 := Try.underlying3
  a3 := Try.isAgg3
  z3 := Try.sizeOf3
  v3 := Try.zeroValue3
  t4 := Try.underlying4
  a4 := Try.isAgg4
  z4 := Try.sizeOf4
  v4 := Try.zeroValue4
  t22 := Try.underlying38
  a22 := Try.isAgg38
  z22 := Try.sizeOf38
  v22 := Try.zeroValue38
  t25 := Try.underlying63
  a25 := Try.isAgg63
  z25 := Try.sizeOf63
  v25 := Try.zeroValue63
  a23 := Try.isAgg3
  z23 := Try.sizeOf3 }

def shownB (l : List Atom) (i : Int) : Bool := !(rd_T41 l i).f5
def shownL (l : List Atom) : List Int := (ordT l).filter (shownB l)
theorem pre_fin (l : List Atom) (d : Nat) (t a : Int) (h : ∀ t a, ∃ zs : List (Fin l.length), ordL l d t a = zs.map fun i => (i.1 : Int)) : ∀ pre : List (Fin l.length), ∃ zs : List (Fin l.length), ordP l d t a pre = zs.map fun i => (i.1 : Int)
  | [] => ⟨[], rfl⟩
  | i :: pre => by
    obtain ⟨z1, h1⟩ := h l[i].f0 l[i].f1
    obtain ⟨z2, h2⟩ := pre_fin l d t a h pre
    unfold ordP at h2 ⊢
    rw [List.flatMap_cons, h2]
    by_cases c : (l[i].f2 == t && (l[i].f3 == a)) = true
    · exact ⟨i :: z1 ++ z2, by rw [if_pos c, h1]; simp⟩
    · exact ⟨z2, by rw [if_neg c]; simp⟩
theorem ordL_fin (l : List Atom) : ∀ (d : Nat) (t a : Int), ∃ zs : List (Fin l.length), ordL l d t a = zs.map fun i => (i.1 : Int)
  | 0, _, _ => ⟨[], rfl⟩
  | d + 1, t, a => pre_fin l d t a (ordL_fin l d) _

theorem below_sorted {α : Type} [Inhabited α] {enc : α → Value} {B n : Nat} {w0 w : World} {g : Nat} {dk : Array α} {os : Array Obj} (h : Below B w0 w) (hg : B ≤ g) (hw : B ≤ w.heap.size) : Below B w0 (sortWorld enc w g 0 n dk os) := by
  have h1 := Lib.below_putRow (enc := enc) (q := n) (d := dk) h hg
  exact h1.trans ⟨rfl, rfl, rfl, by show _ ≤ (_ ++ os).size; rw [Array.size_append]; omega, fun k hk => Go.Sort.heap_grow_old _ os (by show k < (Go.Sort.putRow _ _ _ _ _).heap.size; rw [Go.Sort.size_putRow]; exact Nat.lt_of_lt_of_le hk hw)⟩

set_option maxHeartbeats 2000000 in
theorem seenClosure_walk (gp gs : Nat) (A : Option Addr) (c : Nat) (l : List Atom) (x : Fin l.length) (w : World) (h0 : w.cell? ⟨gp, 0, none⟩ = some (.pointer (some ⟨gs, 0, none⟩))) (h1 : w.cell? ⟨gs, 0, none⟩ = some (.slice A l.length c)) (hr : Kd.C k41 w A l.length l) :
    FnGives Try.prog 36 #[.pointer (some ⟨gp, 0, none⟩)] #[.int .i64 (x.1 : Int)] (.bool l[x].f5) w := by
  show Calls Try.prog 36 #[.int .i64 (x.1 : Int), .pointer (some ⟨gp, 0, none⟩)] w _
  have hlen : l.length ≤ 9223372036854775807 := hr.2.1
  have hx := x.2
  obtain ⟨ad, e1, hx0, hx1, hx2, hx3, hx4, hx5⟩ := at_T41 hr (x.1 : Int) (by omega) (by omega)
  cases e1
  rw [rd_atom l x.1 x.2, Int.toNat_natCast] at hx5
  have hz0 : (0 : Int) ≤ (x.1 : Int) := by omega
  have hz1 : (x.1 : Int) < (l.length : Int) := by omega
  clear hr hx0 hx1 hx2 hx3 hx4
  go_enter Try.func36, Try.ntmps36
  go_wp2
  go_ret
  exact ⟨rfl, 0, rfl⟩

theorem order_own (l : List Atom) (hT : Tree l) (gs : Nat) (A : Option Addr) (c : Nat) (w : World) (hbox : w.heap[gs]? = some (.cells #[.slice A l.length c] 28 (0, 0))) (hC : Kd.C k41 w A l.length l) (hc : l.length ≤ c) :
    Calls Try.prog 35 #[.pointer (some ⟨gs, 0, none⟩), .slice none 0 0, .agg #[.int .i64 0, .int .i64 0]] w fun e W' => ∃ Ao co, e = .returned (.slice Ao (ordT l).length co) ∧ W'.ownsRow w.heap.size 3 1 (.slice Ao (ordT l).length co) (ordT l).length (ints (ordT l)) ∧ Below w.heap.size w W' := by
  refine (order_walk l hT gs A c w hbox hC hc).mono ?_
  rintro e W' ⟨Ao, co, rfl, hR, hB⟩
  refine ⟨Ao, co, rfl, ?_, hB⟩
  exact Kd.own_of_R (enc := Value.int .i64) (h1 := fun _ => rfl) hR

set_option maxHeartbeats 4000000 in
set_option maxRecDepth 100000 in
theorem delete_nil (a : Option Addr) (c : Nat) (fv : Value) (w : World) :
    Calls Try.prog 34 #[.slice a 0 c, fv] w fun e w' => e = .returned (.slice a 0 c) ∧ w' = w := by
  have hI := AnyE.slices_IndexFunc_empty { lDel with } a c fv w
  change Calls Try.prog 43 _ _ _ at hI
  go_enter Try.func34, Try.ntmps34
  go_wp2_with (go_at_call 43; refine hI.mono ?_; rintro e w' ⟨rfl, rfl⟩)
  go_ret
  exact ⟨rfl, rfl⟩

theorem delete_walk (gp gs : Nat) (A : Option Addr) (c : Nat) (l : List Atom) (w1 : World) (hgp : w1.cell? ⟨gp, 0, none⟩ = some (.pointer (some ⟨gs, 0, none⟩))) (hgs : w1.cell? ⟨gs, 0, none⟩ = some (.slice A l.length c)) (hC : Kd.C k41 w1 A l.length l)
    (Ao : Option Addr) (co : Nat) (w : World) (hb : Below w1.heap.size w1 w) (hown : w.ownsRow w1.heap.size 3 1 (.slice Ao (ordT l).length co) (ordT l).length (ints (ordT l))) :
    Calls Try.prog 34 #[.slice Ao (ordT l).length co, .func (.func 36) #[] #[.pointer (some ⟨gp, 0, none⟩)]] w fun e w' => ∃ co', e = .returned (.slice Ao (shownL l).length co') ∧ w'.ownsRow w1.heap.size 3 1 (.slice Ao (shownL l).length co') (shownL l).length (ints (shownL l)) ∧ Below w1.heap.size w1 w' := by
  obtain ⟨zs, hz⟩ := ordL_fin l 81 0 0
  replace hz : ordT l = zs.map fun i => (i.1 : Int) := hz
  have hsh : shownL l = (zs.filter fun x => !l[x].f5).map fun i => (i.1 : Int) := by
    unfold shownL
    rw [hz, List.filter_map]
    congr 1
    refine List.filter_congr fun x _ => ?_
    simp only [Function.comp, shownB, rd_atom l x.1 x.2]
    rfl
  cases zs with
  | nil =>
    rw [List.map_nil] at hz
    rw [List.filter_nil, List.map_nil] at hsh
    rw [hz] at hown ⊢
    rw [hsh]
    refine (delete_nil Ao co _ w).mono ?_
    rintro e w' ⟨rfl, rfl⟩
    exact ⟨co, rfl, hown, hb⟩
  | cons z zs =>
    haveI : Inhabited (Fin l.length) := ⟨z⟩
    have hpos : 0 < l.length := Nat.lt_of_le_of_lt (Nat.zero_le _) z.2
    have hi : ints (ordT l) = (z :: zs).map fun i : Fin l.length => Value.int .i64 (i.1 : Int) := by rw [hz, ints, List.map_map]; rfl
    have hlen : (ordT l).length = (z :: zs).length := by rw [hz, List.length_map]
    rw [hi] at hown
    obtain ⟨g, cap, hv, hbg, hlt, hn, hm, hl2, hH⟩ := Lib.holds_of_ownsRow hown (by rw [hlen]; simp)
    simp only [Value.slice.injEq] at hv
    obtain ⟨rfl, _, rfl⟩ := hv
    have hall : ∀ W, Below w1.heap.size w1 W → ∀ x : Fin l.length, FnGives Try.prog 36 #[.pointer (some ⟨gp, 0, none⟩)] #[.int .i64 (x.1 : Int)] (.bool l[x].f5) W := fun W hW x =>
      seenClosure_walk gp gs A c l x W (cell_step hgp hW) (cell_step hgs hW) (Kd.C_below hC hW)
    have hcon := AnyE.slices_DeleteFunc lDel (fun i : Fin l.length => Value.int .i64 (i.1 : Int)) (fun _ => rfl) (fun x => l[x].f5) 36 #[.pointer (some ⟨gp, 0, none⟩)] (enters_of Try.func36 (by kernel_rfl) rfl) ⟨0, hpos⟩ Try.zeroValue3 g 0 co (z :: zs).toArray w
      (fun W x hW => hall W (hb.trans (hW.mono hb.size)) x) (fun n os dk x _ => hall _ (below_sorted hb hbg hb.size) x) hH (by simp only [List.size_toArray, ← hlen]; simp only [maxLen] at hm; omega) (by simp only [List.size_toArray, ← hlen]; exact hn)
    simp only [List.size_toArray] at hcon
    rw [hlen] at hown ⊢
    refine hcon.mono ?_
    rintro e w' ⟨rfl, q, rfl⟩
    have hk : ((z :: zs).filter fun x => !l[x].f5).length ≤ (z :: zs).length := List.length_filter_le _ _
    have hr := Lib.ownsRow_putRow (q := q) (k := ((z :: zs).filter fun x => !l[x].f5).length) (ys := ((z :: zs).filter fun x => !l[x].f5) ++ List.replicate ((z :: zs).length - ((z :: zs).filter fun x => !l[x].f5).length) ⟨0, hpos⟩) hown (by simp only [List.length_append, List.length_replicate]; omega) hk
    rw [List.take_left' rfl] at hr
    have e1 : (shownL l).length = ((z :: zs).filter fun x => !l[x].f5).length := by rw [hsh, List.length_map]
    have e2 : ints (shownL l) = ((z :: zs).filter fun x => !l[x].f5).map fun i : Fin l.length => Value.int .i64 (i.1 : Int) := by rw [hsh, ints, List.map_map]; rfl
    rw [e1, e2]
    exact ⟨co, rfl, hr, Lib.below_putRow hb hbg⟩

set_option maxHeartbeats 4000000 in
set_option maxRecDepth 100000 in
theorem seen_walk (l : List Atom) (hT : Tree l) (gs : Nat) (A : Option Addr) (c : Nat) (w : World) (hbox : w.heap[gs]? = some (.cells #[.slice A l.length c] 28 (0, 0))) (hC : Kd.C k41 w A l.length l) (hc : l.length ≤ c) :
    Calls Try.prog 18 #[.pointer (some ⟨gs, 0, none⟩)] w fun e W' => ∃ Ao co, e = .returned (.slice Ao (shownL l).length co) ∧ W'.ownsRow w.heap.size 3 1 (.slice Ao (shownL l).length co) (shownL l).length (ints (shownL l)) ∧ Below w.heap.size w W' := by
  have hB1 : Below w.heap.size w (w.alloc (.cells #[.pointer (some ⟨gs, 0, none⟩)] 60)) := (Below.refl _ w).alloc (Nat.le_refl _) _
  have hb1 : (w.alloc (.cells #[.pointer (some ⟨gs, 0, none⟩)] 60)).heap[gs]? = some (.cells #[.slice A l.length c] 28 (0, 0)) := (Below.heap_alloc _ _ _ (Array.getElem?_eq_some_iff.1 hbox).1).trans hbox
  have hgp : (w.alloc (.cells #[.pointer (some ⟨gs, 0, none⟩)] 60)).cell? ⟨w.heap.size, 0, none⟩ = some (.pointer (some ⟨gs, 0, none⟩)) := (blk_cell (World.alloc_heap_new w _) 0).trans rfl
  have hgs : (w.alloc (.cells #[.pointer (some ⟨gs, 0, none⟩)] 60)).cell? ⟨gs, 0, none⟩ = some (.slice A l.length c) := (blk_cell hb1 0).trans rfl
  have hO := order_own l hT gs A c _ hb1 (Kd.C_below hC hB1) hc
  have hD := delete_walk w.heap.size gs A c l _ hgp hgs (Kd.C_below hC hB1)
  have HO := mz hO
  have HD := mz hD
  have HB1 := mz hB1
  clear hO hD hgp hgs hb1 hB1 hC hbox hc hT
  go_enter Try.func18, Try.ntmps18
  go_wp2_with (first | (go_at_call 35; refine HO.out.mono ?_; rintro e w5 ⟨Ao, co, rfl, hown5, hb5⟩; have HOwn := mz hown5; have HB5 := mz hb5; clear hown5 hb5) | (go_at_call 34; refine (HD.out Ao co w5 HB5.out HOwn.out).mono ?_; rintro e w6 ⟨co6, rfl, hown6, hb6⟩; have HOwn6 := mz hown6; have HB6 := mz hb6; clear hown6 hb6))
  go_ret
  exact ⟨Ao, co6, rfl, own_weaken HOwn6.out (by simp), HB1.out.trans (HB6.out.mono (by simp))⟩
theorem shownL_in (l : List Atom) : ∀ i ∈ shownL l, ∃ j : Nat, j < l.length ∧ i = (j : Int) := by
  intro i hi
  obtain ⟨zs, hz⟩ := ordL_fin l 81 0 0
  have h1 : i ∈ ordL l 81 0 0 := (List.mem_filter.1 hi).1
  rw [hz] at h1
  obtain ⟨z, _, rfl⟩ := List.mem_map.1 h1
  exact ⟨z.1, z.2, rfl⟩
theorem shownL_len (l : List Atom) (hT : Tree l) : (shownL l).length ≤ 6480 := Nat.le_trans (List.length_filter_le _ _) (hT.short 81 0 0 (Nat.le_refl _))
theorem flat_get {α β : Type} (f : α → List β) (sz : Nat) (hf : ∀ x, (f x).length = sz) (hs : 0 < sz) (l : List α) : ∀ j : Nat, (l.flatMap f)[j]? = (l[j / sz]?).bind (fun x => (f x)[j % sz]?) := by
  induction l with
  | nil => intro j; simp
  | cons x l ih =>
    intro j
    rw [List.flatMap_cons]
    by_cases h : j < sz
    · rw [List.getElem?_append_left (by rw [hf]; exact h), Nat.div_eq_of_lt h, Nat.mod_eq_of_lt h]
      simp
    · rw [List.getElem?_append_right (by rw [hf]; omega), hf, ih]
      have e1 : j / sz = (j - sz) / sz + 1 := by rw [Nat.div_eq_sub_div hs (by omega)]
      have e2 : j % sz = (j - sz) % sz := by rw [Nat.mod_eq_sub_mod (by omega)]
      rw [e1, e2, List.getElem?_cons_succ]
theorem flat_length {α β : Type} (f : α → List β) (sz : Nat) (hf : ∀ x, (f x).length = sz) (l : List α) : (l.flatMap f).length = l.length * sz := by
  induction l with
  | nil => simp
  | cons x l ih => rw [List.flatMap_cons, List.length_append, hf, ih, List.length_cons, Nat.add_mul]; omega
theorem flat_chunk {α β : Type} (f : α → List β) (sz : Nat) (hf : ∀ x, (f x).length = sz) (l : List α) : ∀ (j : Nat) (x : α), l[j]? = some x → ((l.flatMap f).drop (j * sz)).take sz = f x := by
  induction l with
  | nil => intro j x h; simp at h
  | cons y l ih =>
    intro j x h
    rw [List.flatMap_cons]
    cases j with
    | zero =>
      have : y = x := by simpa using h
      subst this
      rw [Nat.zero_mul, List.drop_zero, List.take_append_of_le_length (by rw [hf]; exact Nat.le_refl _), List.take_of_length_le (by rw [hf]; exact Nat.le_refl _)]
    | succ j =>
      rw [List.getElem?_cons_succ] at h
      rw [show (j + 1) * sz = (f y).length + j * sz by rw [hf, Nat.add_mul]; omega, ← List.drop_drop, List.drop_left]
      exact ih j x h

def cellsA (p : Atom) : List Value := [.int .i64 p.f0, .int .i64 p.f1, .int .i64 p.f2, .int .i64 p.f3, .string p.f4, .bool p.f5]
theorem cellsA_len (p : Atom) : (cellsA p).length = 6 := rfl

theorem clone_cells {w : World} {ad : Addr} {l : List Atom} (h : Kd.C k41 w (some ad) l.length l) : ∀ j u, (l.flatMap cellsA)[j]? = some u → w.cell? (ad.add j) = some u := by
  intro j u hj
  rw [flat_get cellsA 6 cellsA_len (by omega)] at hj
  obtain ⟨p, hp, hu⟩ := Option.bind_eq_some_iff.1 hj
  have hlt : j / 6 < l.length := (List.getElem?_eq_some_iff.1 hp).1
  obtain ⟨ad', e, hc⟩ := h.2.2 (by omega)
  obtain ⟨c, hcl, hK, hcell⟩ := hc (j / 6) p hp
  obtain rfl : ad = ad' := by injection e
  have hck : c = cellsA p := k41_open hK
  have hsz : k41.sz = 6 := rfl
  have := hcell (j % 6) u (by rw [hck]; exact hu)
  rw [hsz] at this
  rw [show j = j / 6 * 6 + j % 6 by omega]
  exact this
theorem cells_one (l : List Atom) : ∀ u ∈ l.flatMap cellsA, u.oneCell' = true := by
  intro u hu
  obtain ⟨p, _, hp⟩ := List.mem_flatMap.1 hu
  simp only [cellsA, List.mem_cons, List.not_mem_nil, or_false] at hp
  rcases hp with rfl | rfl | rfl | rfl | rfl | rfl <;> rfl

set_option maxHeartbeats 2000000 in
theorem cloneA_own (A0 : Option Addr) (c0 : Nat) (l0 : List (S41)) (w : World) (hr0 : Kd.C k41 w A0 l0.length l0) (hc0 : l0.length ≤ c0) (hlen : l0.length ≤ 1000000) :
    Calls Try.prog 20 #[.slice A0 l0.length c0] w fun e w' => ∃ v0_ : Value, e = .returned (v0_) ∧ w'.ownsRow w.heap.size 41 6 v0_ l0.length (l0.flatMap cellsA) ∧ Below w.heap.size w w' := by
  cases A0 with
  | none =>
    have h0 : l0 = [] := by
      rcases Nat.eq_zero_or_pos l0.length with h | h
      · exact List.eq_nil_of_length_eq_zero h
      · obtain ⟨_, e, _⟩ := hr0.2.2 h; cases e
    subst h0
    have q22 : ∀ (w : World) (a : Option Addr) (n c n' c' : Nat), (binOp .eql 26 (.slice a n c) (.slice none n' c')).run Try.prog w = .ok (.bool a.isNone) w := fun w a n c n' c' => Lib.run_eql_slice_nil w _ _ a n c n' c' Try.underlying26
    clear hr0 hc0
    go_enter Try.func20, Try.ntmps20
    go_wp2
    go_ret
    exact ⟨_, rfl, World.ownsRow_nil _ _ _ _, Below.refl _ _⟩
  | some ad =>
    have q22 : ∀ (w : World) (a : Option Addr) (n c n' c' : Nat), (binOp .eql 26 (.slice a n c) (.slice none n' c')).run Try.prog w = .ok (.bool a.isNone) w := fun w a n c n' c' => Lib.run_eql_slice_nil w _ _ a n c n' c' Try.underlying26
    obtain ⟨i0, hi, hzz⟩ := Option.map_eq_some_iff.1 info41
    simp only [Prod.mk.injEq] at hzz
    obtain ⟨hz0, hz1, hz2⟩ := hzz
    have HA := mz (clone_cells hr0)
    have HI := mz hi
    have HZ0 := mz hz0
    have HZ1 := mz hz1
    have HZ2 := mz hz2
    clear hr0 hc0 hi hz0 hz1 hz2
    go_enter Try.func20, Try.ntmps20
    go_wp2_with (at_builtin; refine wpList_append_own _ rfl _ _ 26 rfl w.heap.size 41 i0 (.agg #[.int .i64 0, .int .i64 0, .int .i64 0, .int .i64 0, .string ⟨#[]⟩, .bool false]) 6 56 Try.underlying26 HI.out HZ0.out HZ1.out HZ2.out rfl (by decide) _ _ _ rfl (World.ownsRow_made w #[] 0 (Nat.le_refl _) (Nat.zero_le _) (by simp)) ad l0.length c0 (l0.flatMap cellsA) rfl ?qc1 ?qc2 ?qc3 ?qc4 ?qc5 ?qc6 ?_)
    case qc1 => exact flat_length cellsA 6 cellsA_len l0
    case qc2 =>
      intro j u hj
      exact Lib.cell?_alloc_some _ (HA.out j u hj)
    case qc3 => exact cells_one l0
    case qc4 => unfold maxLen; omega
    case qc5 => omega
    case qc6 => simp
    intro v' w1 hown hgrow hnil
    go_wp2
    go_ret
    refine ⟨v', rfl, by simpa using hown, ?_⟩
    exact ((Below.refl _ w).alloc (Nat.le_refl _) _).grown hgrow (by simp) (by intro k hk; simp [Value.ownBlock] at hk; omega)

section
attribute [local go_sem] max2_int min2_int max_two min_two max_three min_three max_four min_four
def impl_goodSeq.f (l0_0 : List (S41)) : Option ((List (S41)) × Bool) := (impl_GoodSeq.f l0_0).bind fun t103 => (if t103 = true then (some (l0_0, true)) else (some (([] : List (S41)), false)))
set_option maxHeartbeats 8000000 in
set_option maxRecDepth 100000 in
theorem impl_goodSeq.calls (P0_0_ : Nat → Prop) (u9000_ : Value) (l0_0 : List (S41)) (r1 : List (S41)) (r2 : Bool) (w0 w : World) (hB : Below w0.heap.size w0 w) (ho0_0 : Kd.R k41 41 w w0.heap.size P0_0_ u9000_ l0_0) (h : impl_goodSeq.f l0_0 = some (r1, r2)) :
    Calls Try.prog 19 #[.agg #[u9000_]] w fun e w' => ∃ v0_ : Value, e = .returned (.tuple #[.agg #[v0_], .bool r2]) ∧ Kd.R k41 41 w' w0.heap.size (fun k_ => (P0_0_ k_ ∨ w.heap.size ≤ k_)) v0_ r1 ∧ Below w0.heap.size w0 w' ∧ Kept w w' (fun k_ => P0_0_ k_) := by
  have hu28 := Try.underlying28
  have HO0_0 := mz (show Kd.R k41 41 w w0.heap.size (fun k_ => (P0_0_ k_ ∨ w.heap.size ≤ k_)) u9000_ l0_0 from Kd.R_mono ho0_0 (fun k_ hk => (.inl hk)))
  have HK := mz (Kept.refl w (fun k_ => P0_0_ k_))
  have HW0 := mz hB.size
  have HB := mz hB
  clear hB
  have H : ((impl_GoodSeq.f l0_0).bind fun t103 => (if t103 = true then (some (l0_0, true)) else (some (([] : List (S41)), false)))) = some (r1, r2) := h
  clear h
  replace H := be0_ H
  obtain ⟨t103, A20, H⟩ := H
  replace H : (if t103 = true then (some (l0_0, true)) else (some (([] : List (S41)), false))) = some (r1, r2) := H
  have A2 := mz A20
  clear A20
  by_cases c3 : t103 = true
  · subst c3
    have H1 : (some (l0_0, true)) = some (r1, r2) := by rw [if_pos rfl] at H; exact H
    clear H
    have H := H1
    clear H1
    simp only [Option.some.injEq, Prod.mk.injEq] at H
    obtain ⟨rfl, rfl⟩ := H
    obtain ⟨Ao4, co4, eo4⟩ := Kd.R_slice HO0_0.out
    subst eo4
    go_enter Try.func19, Try.ntmps19
    go_wp2_with (first | ((with_reducible refine gate_dst (N := 1) rfl ?_); refine box_event ?hg (N := 1) ?hd (cs := #[.slice Ao4 l0_0.length co4]) (t := 28) ?hr ?_; (case hd => rfl); (case hg => rfl); (case hr => first | (go_simp; done) | (go_simp; rfl)); intro gb101 hg w5 hbox hb; have n0_ := mz (Kd.R_below (by (with_reducible repeat (first | apply Kd.R_alloc | apply Kd.R_drewN | apply Kd.R_drew)); exact HO0_0.out) hb); have n1_ := mz (Kept.below (S := (fun k_ => P0_0_ k_)) (by repeat (first | (with_reducible first | exact HK.out | apply Kept.alloc | apply Kept.drewN | apply Kept.drew) | exact HK.out)) hb); have n2_ := mz (below_step (by repeat (first | (with_reducible first | exact HB.out | apply below_alloc | apply pw_below_drewN | apply below_drew1) | exact HB.out)) hb); have n3_ := mz (hbox); have n4_ := mz ((by rw [hg]; exact (by first | exact HK.out.1 | exact (show Kept w _ (fun k_ => P0_0_ k_) from by repeat (first | (with_reducible first | exact HK.out | apply Kept.alloc | apply Kept.drewN | apply Kept.drew) | exact HK.out)).1) : w.heap.size ≤ gb101)); have n5_ := mz ((by rw [hg]; exact (below_size (by repeat (first | (with_reducible first | exact HB.out | apply below_alloc | apply pw_below_drewN | apply below_drew1) | exact HB.out))) : w0.heap.size ≤ gb101)); clear HO0_0; clear HK; clear HB; have HO0_0 := n0_; have HK := n1_; have HB := n2_; have BK101 := n3_; have GW101 := n4_; have GE101 := n5_; clear n0_ n1_ n2_ n3_ n4_ n5_; clear hb hbox hg) | ((with_reducible refine gate_dst (N := 2) rfl ?_); refine box_event ?hg (N := 2) ?hd (cs := #[.slice none 0 0]) (t := 28) ?hr ?_; (case hd => rfl); (case hg => rfl); (case hr => first | (go_simp; done) | (go_simp; rfl)); intro gb102 hg w6 hbox hb; have n0_ := mz (Kd.R_below (by (with_reducible repeat (first | apply Kd.R_alloc | apply Kd.R_drewN | apply Kd.R_drew)); exact HO0_0.out) hb); have n1_ := mz (blk_below (g := gb101) (o := .cells #[.slice Ao4 l0_0.length co4] 28 (0, 0)) (by (with_reducible repeat (first | refine blk_drewN ?_ _ | refine blk_drew ?_ | refine blk_alloc ?_ _)); exact BK101.out) hb); have n2_ := mz (Kept.below (S := (fun k_ => P0_0_ k_)) (by repeat (first | (with_reducible first | exact HK.out | apply Kept.alloc | apply Kept.drewN | apply Kept.drew | refine Kept.setCell ?_ (.inr GW101.out) _) | exact HK.out)) hb); have n3_ := mz (below_step (by repeat (first | (with_reducible first | exact HB.out | apply below_alloc | apply pw_below_drewN | apply below_drew1 | refine below_set ?_ GE101.out) | exact HB.out)) hb); have n4_ := mz (hbox); have n5_ := mz ((by rw [hg]; exact (by first | exact HK.out.1 | exact (show Kept w _ (fun k_ => P0_0_ k_) from by repeat (first | (with_reducible first | exact HK.out | apply Kept.alloc | apply Kept.drewN | apply Kept.drew | refine Kept.setCell ?_ (.inr GW101.out) _) | exact HK.out)).1) : w.heap.size ≤ gb102)); have n6_ := mz ((by rw [hg]; exact (below_size (by repeat (first | (with_reducible first | exact HB.out | apply below_alloc | apply pw_below_drewN | apply below_drew1 | refine below_set ?_ GE101.out) | exact HB.out))) : w0.heap.size ≤ gb102)); have n7_ := mz ((by rw [hg]; exact Nat.ne_of_lt (blk_lt (g := gb101) (o := .cells #[.slice Ao4 l0_0.length co4] 28 (0, 0)) (by (with_reducible repeat (first | refine blk_drewN ?_ _ | refine blk_drew ?_ | refine blk_alloc ?_ _)); exact BK101.out)) : gb101 ≠ gb102)); have n8_ := mz ((by rw [hg]; exact Nat.ne_of_gt (blk_lt (g := gb101) (o := .cells #[.slice Ao4 l0_0.length co4] 28 (0, 0)) (by (with_reducible repeat (first | refine blk_drewN ?_ _ | refine blk_drew ?_ | refine blk_alloc ?_ _)); exact BK101.out)) : gb102 ≠ gb101)); clear HO0_0; clear BK101; clear HK; clear HB; have HO0_0 := n0_; have BK101 := n1_; have HK := n2_; have HB := n3_; have BK102 := n4_; have GW102 := n5_; have GE102 := n6_; have NB101_102 := n7_; have NB102_101 := n8_; clear n0_ n1_ n2_ n3_ n4_ n5_ n6_ n7_ n8_; clear hb hbox hg; have hnb7 := NB101_102.out; have hnc7 := NB102_101.out; have hcz8_0 : w6.cell? ⟨gb101, 0, none⟩ = some (.slice Ao4 l0_0.length co4) := (blk_cell BK101.out 0).trans rfl; have hfz8_0 := blk_frozen BK101.out 0) | ((with_reducible refine gate_callee (f := 16) rfl ?_); refine goesL_ (some 5) rfl rfl Try.func16 (by kernel_rfl) rfl #[.agg #[.slice Ao4 l0_0.length co4]] rfl (by (try simp only [List.map_toArray, List.map_cons, List.map_nil]); first | done | rfl | (simp only [List.length_drop, List.length_take]; rfl)) ?_; (with_reducible refine (impl_GoodSeq.calls _ _ l0_0 true _ ?side1 ?side2 A2.out).mono ?_); (case side1 => repeat (first | exact (Kd.R_reads' HO0_0.out).2.2 | (with_reducible refine Kd.C_alloc ?_ _) | (with_reducible refine Kd.C_drewN ?_ _) | (with_reducible refine Kd.C_drew ?_))); (case side2 => exact (Kd.R_reads' HO0_0.out).2.1); rintro e w9 ⟨rfl, hb⟩; refine ⟨_, rfl, ?_⟩; have n0_ := mz (Kd.R_below (by (with_reducible repeat (first | apply Kd.R_alloc | apply Kd.R_drewN | apply Kd.R_drew)); exact HO0_0.out) hb); have n1_ := mz (blk_below (g := gb101) (o := .cells #[.slice Ao4 l0_0.length co4] 28 (0, 0)) (by (with_reducible repeat (first | refine blk_drewN ?_ _ | refine blk_drew ?_ | refine blk_alloc ?_ _)); exact BK101.out) hb); have n2_ := mz (blk_below (g := gb102) (o := .cells #[.slice none 0 0] 28 (0, 0)) (by (with_reducible repeat (first | refine blk_drewN ?_ _ | refine blk_drew ?_ | refine blk_alloc ?_ _)); exact BK102.out) hb); have n3_ := mz (Kept.below (S := (fun k_ => P0_0_ k_)) (by repeat (first | (with_reducible first | exact HK.out | apply Kept.alloc | apply Kept.drewN | apply Kept.drew | refine Kept.setCell ?_ (.inr GW101.out) _ | refine Kept.setCell ?_ (.inr GW102.out) _) | exact HK.out)) hb); have n4_ := mz (below_step (by repeat (first | (with_reducible first | exact HB.out | apply below_alloc | apply pw_below_drewN | apply below_drew1 | refine below_set ?_ GE101.out | refine below_set ?_ GE102.out) | exact HB.out)) hb); clear HO0_0; clear BK101; clear BK102; clear HK; clear HB; have HO0_0 := n0_; have BK101 := n1_; have BK102 := n2_; have HK := n3_; have HB := n4_; clear n0_ n1_ n2_ n3_ n4_; (try clear hb); (try clear hb2); (try clear hk); (try clear hi); have hcz10_0 : w9.cell? ⟨gb101, 0, none⟩ = some (.slice Ao4 l0_0.length co4) := (blk_cell BK101.out 0).trans rfl; have hfz10_0 := blk_frozen BK101.out 0; have hcz11_0 : w9.cell? ⟨gb102, 0, none⟩ = some (.slice none 0 0) := (blk_cell BK102.out 0).trans rfl; have hfz11_0 := blk_frozen BK102.out 0))
    refine bodyPost_ret (results_ct rfl _ _ gb102 28 #[.slice Ao4 l0_0.length co4] (0, 0) _ rfl (by (with_reducible repeat (first | refine blk_drewN ?_ _ | refine blk_drew ?_ | refine blk_alloc ?_ _)); refine blk_put (cs := #[.slice none 0 0]) ?_ 0 _ rfl; (with_reducible repeat (first | refine blk_drewN ?_ _ | refine blk_drew ?_ | refine blk_alloc ?_ _)); exact BK102.out) Try.underlying28 rfl (by kernel_rfl)) rfl ?_
    exact ⟨_, by first | rfl | (simp [errW_none, errW_some] <;> rfl) | (simp [*, errW_none, errW_some] <;> rfl), by (with_reducible repeat (first | apply Kd.R_alloc | apply Kd.R_drewN | apply Kd.R_drew)); exact Kd.R_mono (Kd.R_far (p := ⟨gb102, 0, none⟩) (Kd.R_types HO0_0.out BK102.out (by decide)) (fun _ hk => hk.2) (.slice Ao4 l0_0.length co4)) (fun _ hk => hk.1), by repeat (first | (with_reducible first | exact HB.out | apply below_alloc | apply pw_below_drewN | apply below_drew1 | refine below_set ?_ GE101.out | refine below_set ?_ GE102.out) | exact HB.out), by repeat (first | (with_reducible first | exact HK.out | apply Kept.alloc | apply Kept.drewN | apply Kept.drew | refine Kept.setCell ?_ (.inr GW101.out) _ | refine Kept.setCell ?_ (.inr GW102.out) _) | exact HK.out)⟩
  · replace c3 := Bool.eq_false_iff.mpr c3
    subst c3
    have H1 : (some (([] : List (S41)), false)) = some (r1, r2) := by rw [if_neg (show ¬ (false = true) by decide)] at H; exact H
    clear H
    have H := H1
    clear H1
    simp only [Option.some.injEq, Prod.mk.injEq] at H
    obtain ⟨rfl, rfl⟩ := H
    obtain ⟨Ao12, co12, eo12⟩ := Kd.R_slice HO0_0.out
    subst eo12
    go_enter Try.func19, Try.ntmps19
    go_wp2_with (first | ((with_reducible refine gate_dst (N := 1) rfl ?_); refine box_event ?hg (N := 1) ?hd (cs := #[.slice Ao12 l0_0.length co12]) (t := 28) ?hr ?_; (case hd => rfl); (case hg => rfl); (case hr => first | (go_simp; done) | (go_simp; rfl)); intro gb101 hg w13 hbox hb; have n0_ := mz (Kd.R_below (by (with_reducible repeat (first | apply Kd.R_alloc | apply Kd.R_drewN | apply Kd.R_drew)); exact HO0_0.out) hb); have n1_ := mz (Kept.below (S := (fun k_ => P0_0_ k_)) (by repeat (first | (with_reducible first | exact HK.out | apply Kept.alloc | apply Kept.drewN | apply Kept.drew) | exact HK.out)) hb); have n2_ := mz (below_step (by repeat (first | (with_reducible first | exact HB.out | apply below_alloc | apply pw_below_drewN | apply below_drew1) | exact HB.out)) hb); have n3_ := mz (hbox); have n4_ := mz ((by rw [hg]; exact (by first | exact HK.out.1 | exact (show Kept w _ (fun k_ => P0_0_ k_) from by repeat (first | (with_reducible first | exact HK.out | apply Kept.alloc | apply Kept.drewN | apply Kept.drew) | exact HK.out)).1) : w.heap.size ≤ gb101)); have n5_ := mz ((by rw [hg]; exact (below_size (by repeat (first | (with_reducible first | exact HB.out | apply below_alloc | apply pw_below_drewN | apply below_drew1) | exact HB.out))) : w0.heap.size ≤ gb101)); clear HO0_0; clear HK; clear HB; have HO0_0 := n0_; have HK := n1_; have HB := n2_; have BK101 := n3_; have GW101 := n4_; have GE101 := n5_; clear n0_ n1_ n2_ n3_ n4_ n5_; clear hb hbox hg) | ((with_reducible refine gate_dst (N := 2) rfl ?_); refine box_event ?hg (N := 2) ?hd (cs := #[.slice none 0 0]) (t := 28) ?hr ?_; (case hd => rfl); (case hg => rfl); (case hr => first | (go_simp; done) | (go_simp; rfl)); intro gb102 hg w14 hbox hb; have n0_ := mz (Kd.R_below (by (with_reducible repeat (first | apply Kd.R_alloc | apply Kd.R_drewN | apply Kd.R_drew)); exact HO0_0.out) hb); have n1_ := mz (blk_below (g := gb101) (o := .cells #[.slice Ao12 l0_0.length co12] 28 (0, 0)) (by (with_reducible repeat (first | refine blk_drewN ?_ _ | refine blk_drew ?_ | refine blk_alloc ?_ _)); exact BK101.out) hb); have n2_ := mz (Kept.below (S := (fun k_ => P0_0_ k_)) (by repeat (first | (with_reducible first | exact HK.out | apply Kept.alloc | apply Kept.drewN | apply Kept.drew | refine Kept.setCell ?_ (.inr GW101.out) _) | exact HK.out)) hb); have n3_ := mz (below_step (by repeat (first | (with_reducible first | exact HB.out | apply below_alloc | apply pw_below_drewN | apply below_drew1 | refine below_set ?_ GE101.out) | exact HB.out)) hb); have n4_ := mz (hbox); have n5_ := mz ((by rw [hg]; exact (by first | exact HK.out.1 | exact (show Kept w _ (fun k_ => P0_0_ k_) from by repeat (first | (with_reducible first | exact HK.out | apply Kept.alloc | apply Kept.drewN | apply Kept.drew | refine Kept.setCell ?_ (.inr GW101.out) _) | exact HK.out)).1) : w.heap.size ≤ gb102)); have n6_ := mz ((by rw [hg]; exact (below_size (by repeat (first | (with_reducible first | exact HB.out | apply below_alloc | apply pw_below_drewN | apply below_drew1 | refine below_set ?_ GE101.out) | exact HB.out))) : w0.heap.size ≤ gb102)); have n7_ := mz ((by rw [hg]; exact Nat.ne_of_lt (blk_lt (g := gb101) (o := .cells #[.slice Ao12 l0_0.length co12] 28 (0, 0)) (by (with_reducible repeat (first | refine blk_drewN ?_ _ | refine blk_drew ?_ | refine blk_alloc ?_ _)); exact BK101.out)) : gb101 ≠ gb102)); have n8_ := mz ((by rw [hg]; exact Nat.ne_of_gt (blk_lt (g := gb101) (o := .cells #[.slice Ao12 l0_0.length co12] 28 (0, 0)) (by (with_reducible repeat (first | refine blk_drewN ?_ _ | refine blk_drew ?_ | refine blk_alloc ?_ _)); exact BK101.out)) : gb102 ≠ gb101)); clear HO0_0; clear BK101; clear HK; clear HB; have HO0_0 := n0_; have BK101 := n1_; have HK := n2_; have HB := n3_; have BK102 := n4_; have GW102 := n5_; have GE102 := n6_; have NB101_102 := n7_; have NB102_101 := n8_; clear n0_ n1_ n2_ n3_ n4_ n5_ n6_ n7_ n8_; clear hb hbox hg; have hnb15 := NB101_102.out; have hnc15 := NB102_101.out; have hcz16_0 : w14.cell? ⟨gb101, 0, none⟩ = some (.slice Ao12 l0_0.length co12) := (blk_cell BK101.out 0).trans rfl; have hfz16_0 := blk_frozen BK101.out 0) | ((with_reducible refine gate_callee (f := 16) rfl ?_); refine goesL_ (some 5) rfl rfl Try.func16 (by kernel_rfl) rfl #[.agg #[.slice Ao12 l0_0.length co12]] rfl (by (try simp only [List.map_toArray, List.map_cons, List.map_nil]); first | done | rfl | (simp only [List.length_drop, List.length_take]; rfl)) ?_; (with_reducible refine (impl_GoodSeq.calls _ _ l0_0 false _ ?side1 ?side2 A2.out).mono ?_); (case side1 => repeat (first | exact (Kd.R_reads' HO0_0.out).2.2 | (with_reducible refine Kd.C_alloc ?_ _) | (with_reducible refine Kd.C_drewN ?_ _) | (with_reducible refine Kd.C_drew ?_))); (case side2 => exact (Kd.R_reads' HO0_0.out).2.1); rintro e w17 ⟨rfl, hb⟩; refine ⟨_, rfl, ?_⟩; have n0_ := mz (Kd.R_below (by (with_reducible repeat (first | apply Kd.R_alloc | apply Kd.R_drewN | apply Kd.R_drew)); exact HO0_0.out) hb); have n1_ := mz (blk_below (g := gb101) (o := .cells #[.slice Ao12 l0_0.length co12] 28 (0, 0)) (by (with_reducible repeat (first | refine blk_drewN ?_ _ | refine blk_drew ?_ | refine blk_alloc ?_ _)); exact BK101.out) hb); have n2_ := mz (blk_below (g := gb102) (o := .cells #[.slice none 0 0] 28 (0, 0)) (by (with_reducible repeat (first | refine blk_drewN ?_ _ | refine blk_drew ?_ | refine blk_alloc ?_ _)); exact BK102.out) hb); have n3_ := mz (Kept.below (S := (fun k_ => P0_0_ k_)) (by repeat (first | (with_reducible first | exact HK.out | apply Kept.alloc | apply Kept.drewN | apply Kept.drew | refine Kept.setCell ?_ (.inr GW101.out) _ | refine Kept.setCell ?_ (.inr GW102.out) _) | exact HK.out)) hb); have n4_ := mz (below_step (by repeat (first | (with_reducible first | exact HB.out | apply below_alloc | apply pw_below_drewN | apply below_drew1 | refine below_set ?_ GE101.out | refine below_set ?_ GE102.out) | exact HB.out)) hb); clear HO0_0; clear BK101; clear BK102; clear HK; clear HB; have HO0_0 := n0_; have BK101 := n1_; have BK102 := n2_; have HK := n3_; have HB := n4_; clear n0_ n1_ n2_ n3_ n4_; (try clear hb); (try clear hb2); (try clear hk); (try clear hi); have hcz18_0 : w17.cell? ⟨gb102, 0, none⟩ = some (.slice none 0 0) := (blk_cell BK102.out 0).trans rfl; have hfz18_0 := blk_frozen BK102.out 0))
    refine bodyPost_ret (results_ct rfl _ _ gb102 28 #[.slice none 0 0] (0, 0) _ rfl (by (with_reducible repeat (first | refine blk_drewN ?_ _ | refine blk_drew ?_ | refine blk_alloc ?_ _)); refine blk_put (cs := #[.slice none 0 0]) ?_ 0 _ rfl; (with_reducible repeat (first | refine blk_drewN ?_ _ | refine blk_drew ?_ | refine blk_alloc ?_ _)); exact BK102.out) Try.underlying28 rfl (by kernel_rfl)) rfl ?_
    exact ⟨_, by first | rfl | (simp [errW_none, errW_some] <;> rfl) | (simp [*, errW_none, errW_some] <;> rfl), by first | exact Kd.R_nil _ _ _ _ _ | exact Kd.N_nil _ _ _ _ _ | exact Kd.V_nil _ _ _ _ _ | exact Kd.Q_nil _ _ _ _ _ | exact Kd.S_nil _ _ _ _ _, by repeat (first | (with_reducible first | exact HB.out | apply below_alloc | apply pw_below_drewN | apply below_drew1 | refine below_set ?_ GE101.out | refine below_set ?_ GE102.out) | exact HB.out), by repeat (first | (with_reducible first | exact HK.out | apply Kept.alloc | apply Kept.drewN | apply Kept.drew | refine Kept.setCell ?_ (.inr GW101.out) _ | refine Kept.setCell ?_ (.inr GW102.out) _) | exact HK.out)⟩
end
end Go.Proofs.Ytejilfaioooabaa.X
