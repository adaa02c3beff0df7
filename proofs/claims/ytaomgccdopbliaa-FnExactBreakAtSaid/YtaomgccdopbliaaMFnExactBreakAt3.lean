/- The law FnExactBreakAt of the program: its proof, part 3. -/
import Derived.Test.YtaomgccdopbliaaMFnExactBreakAt2
import Derived.ProofKit
import Derived.OpenShut
import Derived.ChangeSlices
import Derived.Test.YtaomgccdopbliaaRows
import Derived.WalkKit
import Derived.ShutString
import Derived.ChangeOld
import Derived.Below
import Derived.SizedLaws
set_option linter.unusedVariables false
set_option linter.unusedSimpArgs false
namespace Go.Proofs.Ytaomgccdopbliaa.X
open Go.RowKit Go.Proofs.YtaomgccdopbliaaW.PrintWords Go.Proofs.YtaomgccdopbliaaW.PrintLast Go.Proofs.YtaomgccdopbliaaW.PrintMore
section
attribute [local go_sem] max2_int min2_int max_two min_two max_three min_three max_four min_four
mutual
def laws_FnExactBreakAt.j0 : Nat → List ByteArray → List Int → Int → List ByteArray → Bool → List ByteArray → List Int → List ByteArray → Bool → Bool → Option (Bool)
  | 0, _, _, _, _, _, _, _, _, _, _ => none
  | k + 1, x0, x1, x2, x8, x9, x10, x11, x12, x13, x55 => if x55 = true then (some false) else ((laws_toStringS.f k x0).bind fun t123 => ((laws_eqStringS.f k x10 t123).bind fun t126 => (if t126 = true then ((laws_toIntS.f k x1).bind fun t127 => ((laws_eqIntS.f k x11 t127).bind fun t130 => (if t130 = true then ((laws_markStringS.f k x10 1).bind fun bt131 => ((laws_markIntS.f k x11 bt131.1).bind fun bt133 => (if bt133.1 < 0 then (laws_FnExactBreakAt.j1 k x0 x1 x2 x8 x9 x12 true) else ((laws_eqStringS.f k x12 x8).bind fun t135 => (if t135 = true then (laws_FnExactBreakAt.j1 k x0 x1 x2 x8 x9 x12 (x13 != x9)) else (laws_FnExactBreakAt.j1 k x0 x1 x2 x8 x9 x12 true)))))) else (some false)))) else (some false))))
def laws_FnExactBreakAt.j1 : Nat → List ByteArray → List Int → Int → List ByteArray → Bool → List ByteArray → Bool → Option (Bool)
  | 0, _, _, _, _, _, _, _ => none
  | k + 1, x0, x1, x2, x8, x9, x12, x84 => if x84 = true then (some false) else ((laws_markStringS.f k x12 1).bind fun bt136 => ((laws_heldStringS.f k bt136.2 1).bind fun t138 => (if t138 < 0 then (some false) else (if t138 = bt136.1 then ((laws_toStringS.f k x0).bind fun t139 => ((laws_toIntS.f k x1).bind fun t142 => ((impl_BreakAt.f t139 t142 x2).bind fun bt145 => ((laws_eqStringS.f k bt145.1 x8).bind fun t149 => (if t149 = true then (laws_FnExactBreakAt.j2 k bt136.2 bt136.1 (bt145.2 != x9)) else (laws_FnExactBreakAt.j2 k bt136.2 bt136.1 true)))))) else (some false)))))
def laws_FnExactBreakAt.j2 : Nat → List ByteArray → Int → Bool → Option (Bool)
  | 0, _, _, _ => none
  | k + 1, x12, x15, x113 => if x113 = true then (some false) else ((laws_heldStringS.f k x12 1).bind fun t150 => (if t150 < 0 then (some false) else (if t150 = x15 then (some true) else (some false))))
end
def laws_FnExactBreakAt.f (k : Nat) (l0 : List ByteArray) (l1 : List Int) (a2 : Int) : Option (Bool) := if (l1.length : Int) > 1048576 then (some true) else ((laws_szStringS.f k l0 1048576).bind fun t101 => (if t101 < 0 then (some true) else ((laws_toStringS.f k l0).bind fun t102 => ((laws_toIntS.f k l1).bind fun t105 => ((spec_BreakAt.f k t102 t105 a2).bind fun bt108 => ((laws_toStringS.f k l0).bind fun t112 => ((laws_toIntS.f k l1).bind fun t115 => ((impl_BreakAt.f t112 t115 a2).bind fun bt118 => ((laws_eqStringS.f k bt118.1 bt108.1).bind fun t122 => (if t122 = true then (laws_FnExactBreakAt.j0 k l0 l1 a2 bt108.1 bt108.2 t112 t115 bt118.1 bt118.2 (bt118.2 != bt108.2)) else (laws_FnExactBreakAt.j0 k l0 l1 a2 bt108.1 bt108.2 t112 t115 bt118.1 bt118.2 true)))))))))))
set_option maxHeartbeats 8000000 in
set_option maxRecDepth 100000 in
theorem laws_FnExactBreakAt.calls (k : Nat) (A0 : Option Addr) (c0 : Nat) (l0 : List ByteArray) (A1 : Option Addr) (c1 : Nat) (l1 : List Int) (a2 : Int) (r : Bool) (w : World) (hr0 : Kd.C Kd.string w A0 l0.length l0) (hc0 : l0.length ≤ c0) (hr1 : Kd.C (Kd.int .i64) w A1 l1.length l1) (hc1 : l1.length ≤ c1) (h : laws_FnExactBreakAt.f k l0 l1 a2 = some r) :
    Calls Try.prog 5 #[.slice A0 l0.length c0, .slice A1 l1.length c1, .int .i64 a2] w fun e w' => e = .returned (.bool r) ∧ Below w.heap.size w w' := by
  have HR0 := mz hr0
  have HC0 := mz hc0
  clear hr0 hc0
  have HR1 := mz hr1
  have HC1 := mz hc1
  clear hr1 hc1
  have HB := mz (Below.refl w.heap.size w)
  have H : (if (l1.length : Int) > 1048576 then (some true) else ((laws_szStringS.f k l0 1048576).bind fun t101 => (if t101 < 0 then (some true) else ((laws_toStringS.f k l0).bind fun t102 => ((laws_toIntS.f k l1).bind fun t105 => ((spec_BreakAt.f k t102 t105 a2).bind fun bt108 => ((laws_toStringS.f k l0).bind fun t112 => ((laws_toIntS.f k l1).bind fun t115 => ((impl_BreakAt.f t112 t115 a2).bind fun bt118 => ((laws_eqStringS.f k bt118.1 bt108.1).bind fun t122 => (if t122 = true then (laws_FnExactBreakAt.j0 k l0 l1 a2 bt108.1 bt108.2 t112 t115 bt118.1 bt118.2 (bt118.2 != bt108.2)) else (laws_FnExactBreakAt.j0 k l0 l1 a2 bt108.1 bt108.2 t112 t115 bt118.1 bt118.2 true)))))))))))) = some r := h
  clear h
  by_cases c4 : (l1.length : Int) > 1048576
  · rw [if_pos c4] at H
    have c4b0 : decide (1048576 < (l1.length : Int)) = true := decide_eq_true c4
    have c4b1 : decide (1048576 < l1.length) = true := decide_eq_true (by omega)
    clear c4
    obtain rfl := Option.some.inj H
    go_enter Try.func5, Try.ntmps5
    go_wp2
    go_ret
    exact ⟨by first | rfl | (simp [errW_none, errW_some] <;> rfl) | (simp [*, errW_none, errW_some] <;> rfl), by repeat (first | (with_reducible first | exact HB.out | apply below_alloc | apply pw_below_drewN | apply below_drew1) | exact HB.out)⟩
  · rw [if_neg c4] at H
    have c4b0 : decide (1048576 < (l1.length : Int)) = false := decide_eq_false c4
    have c4b1 : decide (1048576 < l1.length) = false := decide_eq_false (by omega)
    clear c4
    replace H := be0_ H
    obtain ⟨t101, A50, H⟩ := H
    replace H : (if t101 < 0 then (some true) else ((laws_toStringS.f k l0).bind fun t102 => ((laws_toIntS.f k l1).bind fun t105 => ((spec_BreakAt.f k t102 t105 a2).bind fun bt108 => ((laws_toStringS.f k l0).bind fun t112 => ((laws_toIntS.f k l1).bind fun t115 => ((impl_BreakAt.f t112 t115 a2).bind fun bt118 => ((laws_eqStringS.f k bt118.1 bt108.1).bind fun t122 => (if t122 = true then (laws_FnExactBreakAt.j0 k l0 l1 a2 bt108.1 bt108.2 t112 t115 bt118.1 bt118.2 (bt118.2 != bt108.2)) else (laws_FnExactBreakAt.j0 k l0 l1 a2 bt108.1 bt108.2 t112 t115 bt118.1 bt118.2 true)))))))))) = some r := H
    have A5 := mz A50
    clear A50
    by_cases c6 : t101 < 0
    · rw [if_pos c6] at H
      have c6b0 : decide (t101 < 0) = true := decide_eq_true c6
      clear c6
      obtain rfl := Option.some.inj H
      go_enter Try.func5, Try.ntmps5
      go_wp2_with (first | ((with_reducible refine gate_callee (f := 11) rfl ?_); refine goesL_ (some 24) rfl rfl Try.func11 (by kernel_rfl) rfl #[.slice A0 l0.length c0, .int .i64 1048576] rfl (by (try simp only [List.map_toArray, List.map_cons, List.map_nil]); first | done | rfl | (simp only [List.length_drop, List.length_take]; rfl)) ?_; (with_reducible refine (laws_szStringS.calls k _ _ l0 1048576 t101 _ ?side1 ?side2 A5.out).mono ?_); (case side1 => repeat (first | exact HR0.out | (with_reducible refine Kd.C_alloc ?_ _) | (with_reducible refine Kd.C_drewN ?_ _) | (with_reducible refine Kd.C_drew ?_))); (case side2 => exact HC0.out); rintro e w' ⟨rfl, ⟨nd, rfl⟩⟩; refine ⟨_, rfl, ?_⟩))
      go_ret
      exact ⟨by first | rfl | (simp [errW_none, errW_some] <;> rfl) | (simp [*, errW_none, errW_some] <;> rfl), by repeat (first | (with_reducible first | exact HB.out | apply below_alloc | apply pw_below_drewN | apply below_drew1) | exact HB.out)⟩
    · rw [if_neg c6] at H
      have c6b0 : decide (t101 < 0) = false := decide_eq_false c6
      clear c6
      replace H := be0_ H
      obtain ⟨t102, A70, H⟩ := H
      replace H : ((laws_toIntS.f k l1).bind fun t105 => ((spec_BreakAt.f k t102 t105 a2).bind fun bt108 => ((laws_toStringS.f k l0).bind fun t112 => ((laws_toIntS.f k l1).bind fun t115 => ((impl_BreakAt.f t112 t115 a2).bind fun bt118 => ((laws_eqStringS.f k bt118.1 bt108.1).bind fun t122 => (if t122 = true then (laws_FnExactBreakAt.j0 k l0 l1 a2 bt108.1 bt108.2 t112 t115 bt118.1 bt118.2 (bt118.2 != bt108.2)) else (laws_FnExactBreakAt.j0 k l0 l1 a2 bt108.1 bt108.2 t112 t115 bt118.1 bt118.2 true)))))))) = some r := H
      have A7 := mz A70
      clear A70
      replace H := be0_ H
      obtain ⟨t105, A80, H⟩ := H
      replace H : ((spec_BreakAt.f k t102 t105 a2).bind fun bt108 => ((laws_toStringS.f k l0).bind fun t112 => ((laws_toIntS.f k l1).bind fun t115 => ((impl_BreakAt.f t112 t115 a2).bind fun bt118 => ((laws_eqStringS.f k bt118.1 bt108.1).bind fun t122 => (if t122 = true then (laws_FnExactBreakAt.j0 k l0 l1 a2 bt108.1 bt108.2 t112 t115 bt118.1 bt118.2 (bt118.2 != bt108.2)) else (laws_FnExactBreakAt.j0 k l0 l1 a2 bt108.1 bt108.2 t112 t115 bt118.1 bt118.2 true))))))) = some r := H
      have A8 := mz A80
      clear A80
      replace H := be0_ H
      obtain ⟨⟨t108, t109⟩, A90, H⟩ := H
      replace H : ((laws_toStringS.f k l0).bind fun t112 => ((laws_toIntS.f k l1).bind fun t115 => ((impl_BreakAt.f t112 t115 a2).bind fun bt118 => ((laws_eqStringS.f k bt118.1 t108).bind fun t122 => (if t122 = true then (laws_FnExactBreakAt.j0 k l0 l1 a2 t108 t109 t112 t115 bt118.1 bt118.2 (bt118.2 != t109)) else (laws_FnExactBreakAt.j0 k l0 l1 a2 t108 t109 t112 t115 bt118.1 bt118.2 true)))))) = some r := H
      have A9 := mz A90
      clear A90
      replace H := be0_ H
      obtain ⟨t112, A100, H⟩ := H
      replace H : ((laws_toIntS.f k l1).bind fun t115 => ((impl_BreakAt.f t112 t115 a2).bind fun bt118 => ((laws_eqStringS.f k bt118.1 t108).bind fun t122 => (if t122 = true then (laws_FnExactBreakAt.j0 k l0 l1 a2 t108 t109 t112 t115 bt118.1 bt118.2 (bt118.2 != t109)) else (laws_FnExactBreakAt.j0 k l0 l1 a2 t108 t109 t112 t115 bt118.1 bt118.2 true))))) = some r := H
      have A10 := mz A100
      clear A100
      replace H := be0_ H
      obtain ⟨t115, A110, H⟩ := H
      replace H : ((impl_BreakAt.f t112 t115 a2).bind fun bt118 => ((laws_eqStringS.f k bt118.1 t108).bind fun t122 => (if t122 = true then (laws_FnExactBreakAt.j0 k l0 l1 a2 t108 t109 t112 t115 bt118.1 bt118.2 (bt118.2 != t109)) else (laws_FnExactBreakAt.j0 k l0 l1 a2 t108 t109 t112 t115 bt118.1 bt118.2 true)))) = some r := H
      have A11 := mz A110
      clear A110
      replace H := be0_ H
      obtain ⟨⟨t118, t119⟩, A120, H⟩ := H
      replace H : ((laws_eqStringS.f k t118 t108).bind fun t122 => (if t122 = true then (laws_FnExactBreakAt.j0 k l0 l1 a2 t108 t109 t112 t115 t118 t119 (t119 != t109)) else (laws_FnExactBreakAt.j0 k l0 l1 a2 t108 t109 t112 t115 t118 t119 true))) = some r := H
      have A12 := mz A120
      clear A120
      have HC13 := mz H
      clear H
      go_enter Try.func5, Try.ntmps5
      go_upto_region 11 with (first | ((with_reducible refine gate_callee (f := 11) rfl ?_); refine goesL_ (some 24) rfl rfl Try.func11 (by kernel_rfl) rfl #[.slice A0 l0.length c0, .int .i64 1048576] rfl (by (try simp only [List.map_toArray, List.map_cons, List.map_nil]); first | done | rfl | (simp only [List.length_drop, List.length_take]; rfl)) ?_; (with_reducible refine (laws_szStringS.calls k _ _ l0 1048576 t101 _ ?side1 ?side2 A5.out).mono ?_); (case side1 => repeat (first | exact HR0.out | (with_reducible refine Kd.C_alloc ?_ _) | (with_reducible refine Kd.C_drewN ?_ _) | (with_reducible refine Kd.C_drew ?_))); (case side2 => exact HC0.out); rintro e w' ⟨rfl, ⟨nd, rfl⟩⟩; refine ⟨_, rfl, ?_⟩) | ((with_reducible refine gate_callee (f := 13) rfl ?_); refine goesL_ (some 29) rfl rfl Try.func13 (by kernel_rfl) rfl #[.slice A0 l0.length c0] rfl (by (try simp only [List.map_toArray, List.map_cons, List.map_nil]); first | done | rfl | (simp only [List.length_drop, List.length_take]; rfl)) ?_; (with_reducible refine (laws_toStringS.calls k _ _ l0 t102 _ ?side1 ?side2 A7.out).mono ?_); (case side1 => repeat (first | exact HR0.out | (with_reducible refine Kd.C_alloc ?_ _) | (with_reducible refine Kd.C_drewN ?_ _) | (with_reducible refine Kd.C_drew ?_))); (case side2 => exact HC0.out); rintro e w14 ⟨v103, rfl, ho0, hb⟩; refine ⟨_, rfl, ?_⟩; have n0_ := mz (Kd.R_lower ho0 (below_size (by repeat (first | (with_reducible first | exact HB.out | apply below_alloc | apply pw_below_drewN | apply below_drew1) | exact HB.out)))); have n1_ := mz (below_step (by repeat (first | (with_reducible first | exact HB.out | apply below_alloc | apply pw_below_drewN | apply below_drew1) | exact HB.out)) hb); clear HB; have HO104 := n0_; have HB := n1_; clear n0_ n1_; (try clear hb); (try clear hb2); (try clear hk); (try clear hi); (try clear ho0)) | ((with_reducible refine gate_callee (f := 16) rfl ?_); refine goesL_ (some 31) rfl rfl Try.func16 (by kernel_rfl) rfl #[.slice A1 l1.length c1] rfl (by (try simp only [List.map_toArray, List.map_cons, List.map_nil]); first | done | rfl | (simp only [List.length_drop, List.length_take]; rfl)) ?_; (with_reducible refine (laws_toIntS.calls k _ _ l1 t105 _ ?side1 ?side2 A8.out).mono ?_); (case side1 => repeat (first | exact (Kd.C_below HR1.out HB.out) | (with_reducible refine Kd.C_alloc ?_ _) | (with_reducible refine Kd.C_drewN ?_ _) | (with_reducible refine Kd.C_drew ?_))); (case side2 => exact HC1.out); rintro e w15 ⟨v106, rfl, ho0, hb⟩; refine ⟨_, rfl, ?_⟩; have n0_ := mz (Kd.R_below (by (with_reducible repeat (first | apply Kd.R_alloc | apply Kd.R_drewN | apply Kd.R_drew)); exact HO104.out) hb); have n1_ := mz (Kd.R_lower ho0 (below_size (by repeat (first | (with_reducible first | exact HB.out | apply below_alloc | apply pw_below_drewN | apply below_drew1) | exact HB.out)))); have n2_ := mz (below_step (by repeat (first | (with_reducible first | exact HB.out | apply below_alloc | apply pw_below_drewN | apply below_drew1) | exact HB.out)) hb); clear HO104; clear HB; have HO104 := n0_; have HO107 := n1_; have HB := n2_; clear n0_ n1_ n2_; (try clear hb); (try clear hb2); (try clear hk); (try clear hi); (try clear ho0); obtain ⟨Ao16, co16, eo16⟩ := Kd.R_slice HO104.out; subst eo16; obtain ⟨Ao17, co17, eo17⟩ := Kd.R_slice HO107.out; subst eo17) | ((with_reducible refine gate_callee (f := 15) rfl ?_); refine goesL_ (some 33) rfl rfl Try.func15 (by kernel_rfl) rfl #[.slice Ao16 t102.length co16, .slice Ao17 t105.length co17, .int .i64 a2] rfl (by (try simp only [List.map_toArray, List.map_cons, List.map_nil]); first | done | rfl | (simp only [List.length_drop, List.length_take]; rfl)) ?_; (with_reducible refine (spec_BreakAt.calls k _ _ t102 _ _ t105 a2 t108 t109 _ ?side1 ?side2 ?side3 ?side4 A9.out).mono ?_); (case side1 => repeat (first | exact (Kd.R_reads' HO104.out).2.2 | (with_reducible refine Kd.C_alloc ?_ _) | (with_reducible refine Kd.C_drewN ?_ _) | (with_reducible refine Kd.C_drew ?_))); (case side2 => exact (Kd.R_reads' HO104.out).2.1); (case side3 => repeat (first | exact (Kd.R_reads' HO107.out).2.2 | (with_reducible refine Kd.C_alloc ?_ _) | (with_reducible refine Kd.C_drewN ?_ _) | (with_reducible refine Kd.C_drew ?_))); (case side4 => exact (Kd.R_reads' HO107.out).2.1); rintro e w18 ⟨v110, rfl, ho0, hb⟩; refine ⟨_, rfl, ?_⟩; have n0_ := mz (Kd.R_elder' (by (with_reducible repeat (first | apply Kd.R_alloc | apply Kd.R_drewN | apply Kd.R_drew)); exact HO104.out) (Kd.R_base ho0) hb); have n1_ := mz (Kd.R_below (by (with_reducible repeat (first | apply Kd.R_alloc | apply Kd.R_drewN | apply Kd.R_drew)); exact HO107.out) hb); have n2_ := mz (Kd.R_lower (Kd.R_new' ho0 (Kd.R_lt (by (with_reducible repeat (first | apply Kd.R_alloc | apply Kd.R_drewN | apply Kd.R_drew)); exact HO104.out))) (below_size (by repeat (first | (with_reducible first | exact HB.out | apply below_alloc | apply pw_below_drewN | apply below_drew1) | exact HB.out)))); have n3_ := mz (below_step (by repeat (first | (with_reducible first | exact HB.out | apply below_alloc | apply pw_below_drewN | apply below_drew1) | exact HB.out)) hb); clear HO104; clear HO107; clear HB; have HO104 := n0_; have HO107 := n1_; have HO111 := n2_; have HB := n3_; clear n0_ n1_ n2_ n3_; (try clear hb); (try clear hb2); (try clear hk); (try clear hi); (try clear ho0)) | ((with_reducible refine gate_callee (f := 13) rfl ?_); refine goesL_ (some 37) rfl rfl Try.func13 (by kernel_rfl) rfl #[.slice A0 l0.length c0] rfl (by (try simp only [List.map_toArray, List.map_cons, List.map_nil]); first | done | rfl | (simp only [List.length_drop, List.length_take]; rfl)) ?_; (with_reducible refine (laws_toStringS.calls k _ _ l0 t112 _ ?side1 ?side2 A10.out).mono ?_); (case side1 => repeat (first | exact (Kd.C_below HR0.out HB.out) | (with_reducible refine Kd.C_alloc ?_ _) | (with_reducible refine Kd.C_drewN ?_ _) | (with_reducible refine Kd.C_drew ?_))); (case side2 => exact HC0.out); rintro e w19 ⟨v113, rfl, ho0, hb⟩; refine ⟨_, rfl, ?_⟩; have n0_ := mz (Kd.R_elder' (by (with_reducible repeat (first | apply Kd.R_alloc | apply Kd.R_drewN | apply Kd.R_drew)); exact HO104.out) (Kd.R_base ho0) hb); have n1_ := mz (Kd.R_below (by (with_reducible repeat (first | apply Kd.R_alloc | apply Kd.R_drewN | apply Kd.R_drew)); exact HO107.out) hb); have n2_ := mz (Kd.R_elder' (by (with_reducible repeat (first | apply Kd.R_alloc | apply Kd.R_drewN | apply Kd.R_drew)); exact HO111.out) (Kd.R_base ho0) hb); have n3_ := mz (Kd.R_lower (Kd.R_new' (Kd.R_new' ho0 (Kd.R_lt (by (with_reducible repeat (first | apply Kd.R_alloc | apply Kd.R_drewN | apply Kd.R_drew)); exact HO104.out))) (Kd.R_lt (by (with_reducible repeat (first | apply Kd.R_alloc | apply Kd.R_drewN | apply Kd.R_drew)); exact HO111.out))) (below_size (by repeat (first | (with_reducible first | exact HB.out | apply below_alloc | apply pw_below_drewN | apply below_drew1) | exact HB.out)))); have n4_ := mz (below_step (by repeat (first | (with_reducible first | exact HB.out | apply below_alloc | apply pw_below_drewN | apply below_drew1) | exact HB.out)) hb); clear HO104; clear HO107; clear HO111; clear HB; have HO104 := n0_; have HO107 := n1_; have HO111 := n2_; have HO114 := n3_; have HB := n4_; clear n0_ n1_ n2_ n3_ n4_; (try clear hb); (try clear hb2); (try clear hk); (try clear hi); (try clear ho0)) | ((with_reducible refine gate_callee (f := 16) rfl ?_); refine goesL_ (some 39) rfl rfl Try.func16 (by kernel_rfl) rfl #[.slice A1 l1.length c1] rfl (by (try simp only [List.map_toArray, List.map_cons, List.map_nil]); first | done | rfl | (simp only [List.length_drop, List.length_take]; rfl)) ?_; (with_reducible refine (laws_toIntS.calls k _ _ l1 t115 _ ?side1 ?side2 A11.out).mono ?_); (case side1 => repeat (first | exact (Kd.C_below HR1.out HB.out) | (with_reducible refine Kd.C_alloc ?_ _) | (with_reducible refine Kd.C_drewN ?_ _) | (with_reducible refine Kd.C_drew ?_))); (case side2 => exact HC1.out); rintro e w20 ⟨v116, rfl, ho0, hb⟩; refine ⟨_, rfl, ?_⟩; have n0_ := mz (Kd.R_below (by (with_reducible repeat (first | apply Kd.R_alloc | apply Kd.R_drewN | apply Kd.R_drew)); exact HO104.out) hb); have n1_ := mz (Kd.R_elder' (by (with_reducible repeat (first | apply Kd.R_alloc | apply Kd.R_drewN | apply Kd.R_drew)); exact HO107.out) (Kd.R_base ho0) hb); have n2_ := mz (Kd.R_below (by (with_reducible repeat (first | apply Kd.R_alloc | apply Kd.R_drewN | apply Kd.R_drew)); exact HO111.out) hb); have n3_ := mz (Kd.R_below (by (with_reducible repeat (first | apply Kd.R_alloc | apply Kd.R_drewN | apply Kd.R_drew)); exact HO114.out) hb); have n4_ := mz (Kd.R_lower (Kd.R_new' ho0 (Kd.R_lt (by (with_reducible repeat (first | apply Kd.R_alloc | apply Kd.R_drewN | apply Kd.R_drew)); exact HO107.out))) (below_size (by repeat (first | (with_reducible first | exact HB.out | apply below_alloc | apply pw_below_drewN | apply below_drew1) | exact HB.out)))); have n5_ := mz (below_step (by repeat (first | (with_reducible first | exact HB.out | apply below_alloc | apply pw_below_drewN | apply below_drew1) | exact HB.out)) hb); clear HO104; clear HO107; clear HO111; clear HO114; clear HB; have HO104 := n0_; have HO107 := n1_; have HO111 := n2_; have HO114 := n3_; have HO117 := n4_; have HB := n5_; clear n0_ n1_ n2_ n3_ n4_ n5_; (try clear hb); (try clear hb2); (try clear hk); (try clear hi); (try clear ho0); obtain ⟨Ao21, co21, eo21⟩ := Kd.R_slice HO114.out; subst eo21; obtain ⟨Ao22, co22, eo22⟩ := Kd.R_slice HO117.out; subst eo22) | ((with_reducible refine gate_callee (f := 17) rfl ?_); refine goesL_ (some 44) rfl rfl Try.func17 (by kernel_rfl) rfl #[.slice Ao21 t112.length co21, .slice Ao22 t115.length co22, .int .i64 a2] rfl (by (try simp only [List.map_toArray, List.map_cons, List.map_nil]); first | done | rfl | (simp only [List.length_drop, List.length_take]; rfl)) ?_; (with_reducible refine (impl_BreakAt.calls _ _ t112 _ _ t115 a2 t118 t119 _ ?side1 ?side2 ?side3 ?side4 A12.out).mono ?_); (case side1 => repeat (first | exact (Kd.R_reads' HO114.out).2.2 | (with_reducible refine Kd.C_alloc ?_ _) | (with_reducible refine Kd.C_drewN ?_ _) | (with_reducible refine Kd.C_drew ?_))); (case side2 => exact (Kd.R_reads' HO114.out).2.1); (case side3 => repeat (first | exact (Kd.R_reads' HO117.out).2.2 | (with_reducible refine Kd.C_alloc ?_ _) | (with_reducible refine Kd.C_drewN ?_ _) | (with_reducible refine Kd.C_drew ?_))); (case side4 => exact (Kd.R_reads' HO117.out).2.1); rintro e w23 ⟨v120, rfl, ho0, hb⟩; refine ⟨_, rfl, ?_⟩; have n0_ := mz (Kd.R_elder' (by (with_reducible repeat (first | apply Kd.R_alloc | apply Kd.R_drewN | apply Kd.R_drew)); exact HO104.out) (Kd.R_base ho0) hb); have n1_ := mz (Kd.R_below (by (with_reducible repeat (first | apply Kd.R_alloc | apply Kd.R_drewN | apply Kd.R_drew)); exact HO107.out) hb); have n2_ := mz (Kd.R_elder' (by (with_reducible repeat (first | apply Kd.R_alloc | apply Kd.R_drewN | apply Kd.R_drew)); exact HO111.out) (Kd.R_base ho0) hb); have n3_ := mz (Kd.R_elder' (by (with_reducible repeat (first | apply Kd.R_alloc | apply Kd.R_drewN | apply Kd.R_drew)); exact HO114.out) (Kd.R_base ho0) hb); have n4_ := mz (Kd.R_below (by (with_reducible repeat (first | apply Kd.R_alloc | apply Kd.R_drewN | apply Kd.R_drew)); exact HO117.out) hb); have n5_ := mz (Kd.R_lower (Kd.R_new' (Kd.R_new' (Kd.R_new' ho0 (Kd.R_lt (by (with_reducible repeat (first | apply Kd.R_alloc | apply Kd.R_drewN | apply Kd.R_drew)); exact HO104.out))) (Kd.R_lt (by (with_reducible repeat (first | apply Kd.R_alloc | apply Kd.R_drewN | apply Kd.R_drew)); exact HO111.out))) (Kd.R_lt (by (with_reducible repeat (first | apply Kd.R_alloc | apply Kd.R_drewN | apply Kd.R_drew)); exact HO114.out))) (below_size (by repeat (first | (with_reducible first | exact HB.out | apply below_alloc | apply pw_below_drewN | apply below_drew1) | exact HB.out)))); have n6_ := mz (below_step (by repeat (first | (with_reducible first | exact HB.out | apply below_alloc | apply pw_below_drewN | apply below_drew1) | exact HB.out)) hb); clear HO104; clear HO107; clear HO111; clear HO114; clear HO117; clear HB; have HO104 := n0_; have HO107 := n1_; have HO111 := n2_; have HO114 := n3_; have HO117 := n4_; have HO121 := n5_; have HB := n6_; clear n0_ n1_ n2_ n3_ n4_ n5_ n6_; (try clear hb); (try clear hb2); (try clear hk); (try clear hi); (try clear ho0)))
      (try simp only [Act.put, List.setIfInBounds_toArray, List.set_cons_zero, List.set_cons_succ])
      go_cut [55] (fun v55 wc => ∃ (kq : Nat) (x55_12 : Bool), v55 = .bool x55_12 ∧ Aside0 (laws_FnExactBreakAt.j0 kq l0 l1 a2 t108 t109 t112 t115 t118 t119 x55_12 = some r) ∧ Aside0 (kq ≤ k) ∧ Aside0 (Kd.R Kd.string 9 wc w.heap.size (fun k_ => some k_ ≠ ((.slice Ao21 t112.length co21) : Value).ownBlock ∧ some k_ ≠ (v120 : Value).ownBlock) v110 t108) ∧ Aside0 (Kd.R Kd.string 9 wc w.heap.size (fun k_ => some k_ ≠ (v110 : Value).ownBlock ∧ some k_ ≠ (v120 : Value).ownBlock) (.slice Ao21 t112.length co21) t112) ∧ Aside0 (Kd.R (Kd.int .i64) 3 wc w.heap.size (fun _ => True) (.slice Ao22 t115.length co22) t115) ∧ Aside0 (Kd.R Kd.string 9 wc w.heap.size (fun k_ => some k_ ≠ (v110 : Value).ownBlock ∧ some k_ ≠ ((.slice Ao21 t112.length co21) : Value).ownBlock) v120 t118) ∧ Aside0 (Below w.heap.size w wc))
      case first =>
        have H := HC13.out
        clear HC13
        replace H := be0_ H
        obtain ⟨t122, A240, H⟩ := H
        replace H : (if t122 = true then (laws_FnExactBreakAt.j0 k l0 l1 a2 t108 t109 t112 t115 t118 t119 (t119 != t109)) else (laws_FnExactBreakAt.j0 k l0 l1 a2 t108 t109 t112 t115 t118 t119 true)) = some r := H
        have A24 := mz A240
        clear A240
        by_cases c25 : t122 = true
        · subst c25
          have H1 : (laws_FnExactBreakAt.j0 k l0 l1 a2 t108 t109 t112 t115 t118 t119 (t119 != t109)) = some r := by rw [if_pos rfl] at H; exact H
          clear H
          have H := H1
          clear H1
          have H' := mz H
          clear H
          obtain ⟨Ao26, co26, eo26⟩ := Kd.R_slice HO121.out
          subst eo26
          obtain ⟨Ao27, co27, eo27⟩ := Kd.R_slice HO111.out
          subst eo27
          go_wp2_with (first | ((with_reducible refine gate_callee (f := 8) rfl ?_); refine goesL_ (some 49) rfl rfl Try.func8 (by kernel_rfl) rfl #[.slice Ao26 t118.length co26, .slice Ao27 t108.length co27] rfl (by (try simp only [List.map_toArray, List.map_cons, List.map_nil]); first | done | rfl | (simp only [List.length_drop, List.length_take]; rfl)) ?_; (with_reducible refine (laws_eqStringS.calls k _ _ t118 _ _ t108 true _ ?side1 ?side2 ?side3 ?side4 A24.out).mono ?_); (case side1 => repeat (first | exact (Kd.R_reads' HO121.out).2.2 | (with_reducible refine Kd.C_alloc ?_ _) | (with_reducible refine Kd.C_drewN ?_ _) | (with_reducible refine Kd.C_drew ?_))); (case side2 => exact (Kd.R_reads' HO121.out).2.1); (case side3 => repeat (first | exact (Kd.R_reads' HO111.out).2.2 | (with_reducible refine Kd.C_alloc ?_ _) | (with_reducible refine Kd.C_drewN ?_ _) | (with_reducible refine Kd.C_drew ?_))); (case side4 => exact (Kd.R_reads' HO111.out).2.1); rintro e w' ⟨rfl, ⟨nd, rfl⟩⟩; refine ⟨_, rfl, ?_⟩))
          go_meet
          case rel => exact ⟨_, ((t119 != t109)), (by first | rfl | (simp; done) | (simp [*]; done)), H', ⟨by first | omega | exact Nat.le_refl _⟩, ⟨by (with_reducible repeat (first | apply Kd.R_alloc | apply Kd.R_drewN | apply Kd.R_drew)); exact Kd.R_mono HO111.out (fun _ hk => ⟨hk.1.2, hk.2⟩)⟩, ⟨by (with_reducible repeat (first | apply Kd.R_alloc | apply Kd.R_drewN | apply Kd.R_drew)); exact Kd.R_mono HO114.out (fun _ hk => ⟨hk.1.2, hk.2⟩)⟩, ⟨by (with_reducible repeat (first | apply Kd.R_alloc | apply Kd.R_drewN | apply Kd.R_drew)); exact Kd.R_mono HO117.out (fun _ hk => trivial)⟩, ⟨by (with_reducible repeat (first | apply Kd.R_alloc | apply Kd.R_drewN | apply Kd.R_drew)); exact Kd.R_mono HO121.out (fun _ hk => ⟨hk.1.2, hk.2⟩)⟩, ⟨by repeat (first | (with_reducible first | exact HB.out | apply below_alloc | apply pw_below_drewN | apply below_drew1) | exact HB.out)⟩⟩
        · replace c25 := Bool.eq_false_iff.mpr c25
          subst c25
          have H1 : (laws_FnExactBreakAt.j0 k l0 l1 a2 t108 t109 t112 t115 t118 t119 true) = some r := by rw [if_neg (show ¬ (false = true) by decide)] at H; exact H
          clear H
          have H := H1
          clear H1
          have H' := mz H
          clear H
          obtain ⟨Ao28, co28, eo28⟩ := Kd.R_slice HO121.out
          subst eo28
          obtain ⟨Ao29, co29, eo29⟩ := Kd.R_slice HO111.out
          subst eo29
          go_wp2_with (first | ((with_reducible refine gate_callee (f := 8) rfl ?_); refine goesL_ (some 49) rfl rfl Try.func8 (by kernel_rfl) rfl #[.slice Ao28 t118.length co28, .slice Ao29 t108.length co29] rfl (by (try simp only [List.map_toArray, List.map_cons, List.map_nil]); first | done | rfl | (simp only [List.length_drop, List.length_take]; rfl)) ?_; (with_reducible refine (laws_eqStringS.calls k _ _ t118 _ _ t108 false _ ?side1 ?side2 ?side3 ?side4 A24.out).mono ?_); (case side1 => repeat (first | exact (Kd.R_reads' HO121.out).2.2 | (with_reducible refine Kd.C_alloc ?_ _) | (with_reducible refine Kd.C_drewN ?_ _) | (with_reducible refine Kd.C_drew ?_))); (case side2 => exact (Kd.R_reads' HO121.out).2.1); (case side3 => repeat (first | exact (Kd.R_reads' HO111.out).2.2 | (with_reducible refine Kd.C_alloc ?_ _) | (with_reducible refine Kd.C_drewN ?_ _) | (with_reducible refine Kd.C_drew ?_))); (case side4 => exact (Kd.R_reads' HO111.out).2.1); rintro e w' ⟨rfl, ⟨nd, rfl⟩⟩; refine ⟨_, rfl, ?_⟩))
          go_meet
          case rel => exact ⟨_, (true), (by first | rfl | (simp; done) | (simp [*]; done)), H', ⟨by first | omega | exact Nat.le_refl _⟩, ⟨by (with_reducible repeat (first | apply Kd.R_alloc | apply Kd.R_drewN | apply Kd.R_drew)); exact Kd.R_mono HO111.out (fun _ hk => ⟨hk.1.2, hk.2⟩)⟩, ⟨by (with_reducible repeat (first | apply Kd.R_alloc | apply Kd.R_drewN | apply Kd.R_drew)); exact Kd.R_mono HO114.out (fun _ hk => ⟨hk.1.2, hk.2⟩)⟩, ⟨by (with_reducible repeat (first | apply Kd.R_alloc | apply Kd.R_drewN | apply Kd.R_drew)); exact Kd.R_mono HO117.out (fun _ hk => trivial)⟩, ⟨by (with_reducible repeat (first | apply Kd.R_alloc | apply Kd.R_drewN | apply Kd.R_drew)); exact Kd.R_mono HO121.out (fun _ hk => ⟨hk.1.2, hk.2⟩)⟩, ⟨by repeat (first | (with_reducible first | exact HB.out | apply below_alloc | apply pw_below_drewN | apply below_drew1) | exact HB.out)⟩⟩
      case rest =>
        clear HC13
        try clear c1
        try clear c2
        try clear p2
        try clear c4
        try clear c4b0
        try clear c4b1
        try clear c5
        try clear c6
        try clear c6b0
        try clear c8
        try clear c11
        try clear c13
        try clear c15
        try clear c16
        try clear c17
        try clear c25
        obtain ⟨kq, x55_12, rfl, HA, HJ12, HO_8, HO_10, HO_11, HO_12, HB⟩ := hcut
        cases kq with
        | zero => exact absurd HA.out (by simp [laws_FnExactBreakAt.j0])
        | succ kj12 =>
          have H := HA.out
          clear HA
          simp only [laws_FnExactBreakAt.j0] at H
          by_cases c30 : x55_12 = true
          · subst c30
            have H1 : (some false) = some r := by rw [if_pos rfl] at H; exact H
            clear H
            have H := H1
            clear H1
            obtain rfl := Option.some.inj H
            go_wp2
            go_ret
            exact ⟨by first | rfl | (simp [errW_none, errW_some] <;> rfl) | (simp [*, errW_none, errW_some] <;> rfl), by repeat (first | (with_reducible first | exact HB.out | apply below_alloc | apply pw_below_drewN | apply below_drew1) | exact HB.out)⟩
          · replace c30 := Bool.eq_false_iff.mpr c30
            subst c30
            have H1 : ((laws_toStringS.f kj12 l0).bind fun t123 => ((laws_eqStringS.f kj12 t112 t123).bind fun t126 => (if t126 = true then ((laws_toIntS.f kj12 l1).bind fun t127 => ((laws_eqIntS.f kj12 t115 t127).bind fun t130 => (if t130 = true then ((laws_markStringS.f kj12 t112 1).bind fun bt131 => ((laws_markIntS.f kj12 t115 bt131.1).bind fun bt133 => (if bt133.1 < 0 then (laws_FnExactBreakAt.j1 kj12 l0 l1 a2 t108 t109 t118 true) else ((laws_eqStringS.f kj12 t118 t108).bind fun t135 => (if t135 = true then (laws_FnExactBreakAt.j1 kj12 l0 l1 a2 t108 t109 t118 (t119 != t109)) else (laws_FnExactBreakAt.j1 kj12 l0 l1 a2 t108 t109 t118 true)))))) else (some false)))) else (some false)))) = some r := by rw [if_neg (show ¬ (false = true) by decide)] at H; exact H
            clear H
            have H := H1
            clear H1
            replace H := be0_ H
            obtain ⟨t123, A310, H⟩ := H
            replace H : ((laws_eqStringS.f kj12 t112 t123).bind fun t126 => (if t126 = true then ((laws_toIntS.f kj12 l1).bind fun t127 => ((laws_eqIntS.f kj12 t115 t127).bind fun t130 => (if t130 = true then ((laws_markStringS.f kj12 t112 1).bind fun bt131 => ((laws_markIntS.f kj12 t115 bt131.1).bind fun bt133 => (if bt133.1 < 0 then (laws_FnExactBreakAt.j1 kj12 l0 l1 a2 t108 t109 t118 true) else ((laws_eqStringS.f kj12 t118 t108).bind fun t135 => (if t135 = true then (laws_FnExactBreakAt.j1 kj12 l0 l1 a2 t108 t109 t118 (t119 != t109)) else (laws_FnExactBreakAt.j1 kj12 l0 l1 a2 t108 t109 t118 true)))))) else (some false)))) else (some false))) = some r := H
            have A31 := mz A310
            clear A310
            replace H := be0_ H
            obtain ⟨t126, A320, H⟩ := H
            replace H : (if t126 = true then ((laws_toIntS.f kj12 l1).bind fun t127 => ((laws_eqIntS.f kj12 t115 t127).bind fun t130 => (if t130 = true then ((laws_markStringS.f kj12 t112 1).bind fun bt131 => ((laws_markIntS.f kj12 t115 bt131.1).bind fun bt133 => (if bt133.1 < 0 then (laws_FnExactBreakAt.j1 kj12 l0 l1 a2 t108 t109 t118 true) else ((laws_eqStringS.f kj12 t118 t108).bind fun t135 => (if t135 = true then (laws_FnExactBreakAt.j1 kj12 l0 l1 a2 t108 t109 t118 (t119 != t109)) else (laws_FnExactBreakAt.j1 kj12 l0 l1 a2 t108 t109 t118 true)))))) else (some false)))) else (some false)) = some r := H
            have A32 := mz A320
            clear A320
            by_cases c33 : t126 = true
            · subst c33
              have H1 : ((laws_toIntS.f kj12 l1).bind fun t127 => ((laws_eqIntS.f kj12 t115 t127).bind fun t130 => (if t130 = true then ((laws_markStringS.f kj12 t112 1).bind fun bt131 => ((laws_markIntS.f kj12 t115 bt131.1).bind fun bt133 => (if bt133.1 < 0 then (laws_FnExactBreakAt.j1 kj12 l0 l1 a2 t108 t109 t118 true) else ((laws_eqStringS.f kj12 t118 t108).bind fun t135 => (if t135 = true then (laws_FnExactBreakAt.j1 kj12 l0 l1 a2 t108 t109 t118 (t119 != t109)) else (laws_FnExactBreakAt.j1 kj12 l0 l1 a2 t108 t109 t118 true)))))) else (some false)))) = some r := by rw [if_pos rfl] at H; exact H
              clear H
              have H := H1
              clear H1
              replace H := be0_ H
              obtain ⟨t127, A340, H⟩ := H
              replace H : ((laws_eqIntS.f kj12 t115 t127).bind fun t130 => (if t130 = true then ((laws_markStringS.f kj12 t112 1).bind fun bt131 => ((laws_markIntS.f kj12 t115 bt131.1).bind fun bt133 => (if bt133.1 < 0 then (laws_FnExactBreakAt.j1 kj12 l0 l1 a2 t108 t109 t118 true) else ((laws_eqStringS.f kj12 t118 t108).bind fun t135 => (if t135 = true then (laws_FnExactBreakAt.j1 kj12 l0 l1 a2 t108 t109 t118 (t119 != t109)) else (laws_FnExactBreakAt.j1 kj12 l0 l1 a2 t108 t109 t118 true)))))) else (some false))) = some r := H
              have A34 := mz A340
              clear A340
              replace H := be0_ H
              obtain ⟨t130, A350, H⟩ := H
              replace H : (if t130 = true then ((laws_markStringS.f kj12 t112 1).bind fun bt131 => ((laws_markIntS.f kj12 t115 bt131.1).bind fun bt133 => (if bt133.1 < 0 then (laws_FnExactBreakAt.j1 kj12 l0 l1 a2 t108 t109 t118 true) else ((laws_eqStringS.f kj12 t118 t108).bind fun t135 => (if t135 = true then (laws_FnExactBreakAt.j1 kj12 l0 l1 a2 t108 t109 t118 (t119 != t109)) else (laws_FnExactBreakAt.j1 kj12 l0 l1 a2 t108 t109 t118 true)))))) else (some false)) = some r := H
              have A35 := mz A350
              clear A350
              by_cases c36 : t130 = true
              · subst c36
                have H1 : ((laws_markStringS.f kj12 t112 1).bind fun bt131 => ((laws_markIntS.f kj12 t115 bt131.1).bind fun bt133 => (if bt133.1 < 0 then (laws_FnExactBreakAt.j1 kj12 l0 l1 a2 t108 t109 t118 true) else ((laws_eqStringS.f kj12 t118 t108).bind fun t135 => (if t135 = true then (laws_FnExactBreakAt.j1 kj12 l0 l1 a2 t108 t109 t118 (t119 != t109)) else (laws_FnExactBreakAt.j1 kj12 l0 l1 a2 t108 t109 t118 true)))))) = some r := by rw [if_pos rfl] at H; exact H
                clear H
                have H := H1
                clear H1
                replace H := be0_ H
                obtain ⟨⟨t131, t132⟩, A370, H⟩ := H
                replace H : ((laws_markIntS.f kj12 t115 t131).bind fun bt133 => (if bt133.1 < 0 then (laws_FnExactBreakAt.j1 kj12 l0 l1 a2 t108 t109 t118 true) else ((laws_eqStringS.f kj12 t118 t108).bind fun t135 => (if t135 = true then (laws_FnExactBreakAt.j1 kj12 l0 l1 a2 t108 t109 t118 (t119 != t109)) else (laws_FnExactBreakAt.j1 kj12 l0 l1 a2 t108 t109 t118 true))))) = some r := H
                have A37 := mz A370
                clear A370
                replace H := be0_ H
                obtain ⟨⟨t133, t134⟩, A380, H⟩ := H
                replace H : (if t133 < 0 then (laws_FnExactBreakAt.j1 kj12 l0 l1 a2 t108 t109 t118 true) else ((laws_eqStringS.f kj12 t118 t108).bind fun t135 => (if t135 = true then (laws_FnExactBreakAt.j1 kj12 l0 l1 a2 t108 t109 t118 (t119 != t109)) else (laws_FnExactBreakAt.j1 kj12 l0 l1 a2 t108 t109 t118 true)))) = some r := H
                have A38 := mz A380
                clear A380
                have HC39 := mz H
                clear H
                go_upto_region 20 with (first | ((with_reducible refine gate_callee (f := 13) rfl ?_); refine goesL_ (some 58) rfl rfl Try.func13 (by kernel_rfl) rfl #[.slice A0 l0.length c0] rfl (by (try simp only [List.map_toArray, List.map_cons, List.map_nil]); first | done | rfl | (simp only [List.length_drop, List.length_take]; rfl)) ?_; (with_reducible refine (laws_toStringS.calls kj12 _ _ l0 t123 _ ?side1 ?side2 A31.out).mono ?_); (case side1 => repeat (first | exact (Kd.C_below HR0.out HB.out) | (with_reducible refine Kd.C_alloc ?_ _) | (with_reducible refine Kd.C_drewN ?_ _) | (with_reducible refine Kd.C_drew ?_))); (case side2 => exact HC0.out); rintro e w40 ⟨v124, rfl, ho0, hb⟩; refine ⟨_, rfl, ?_⟩; have n0_ := mz (Kd.R_elder' (by (with_reducible repeat (first | apply Kd.R_alloc | apply Kd.R_drewN | apply Kd.R_drew)); exact HO_8.out) (Kd.R_base ho0) hb); have n1_ := mz (Kd.R_elder' (by (with_reducible repeat (first | apply Kd.R_alloc | apply Kd.R_drewN | apply Kd.R_drew)); exact HO_10.out) (Kd.R_base ho0) hb); have n2_ := mz (Kd.R_below (by (with_reducible repeat (first | apply Kd.R_alloc | apply Kd.R_drewN | apply Kd.R_drew)); exact HO_11.out) hb); have n3_ := mz (Kd.R_elder' (by (with_reducible repeat (first | apply Kd.R_alloc | apply Kd.R_drewN | apply Kd.R_drew)); exact HO_12.out) (Kd.R_base ho0) hb); have n4_ := mz (Kd.R_lower (Kd.R_new' (Kd.R_new' (Kd.R_new' ho0 (Kd.R_lt (by (with_reducible repeat (first | apply Kd.R_alloc | apply Kd.R_drewN | apply Kd.R_drew)); exact HO_8.out))) (Kd.R_lt (by (with_reducible repeat (first | apply Kd.R_alloc | apply Kd.R_drewN | apply Kd.R_drew)); exact HO_10.out))) (Kd.R_lt (by (with_reducible repeat (first | apply Kd.R_alloc | apply Kd.R_drewN | apply Kd.R_drew)); exact HO_12.out))) (below_size (by repeat (first | (with_reducible first | exact HB.out | apply below_alloc | apply pw_below_drewN | apply below_drew1) | exact HB.out)))); have n5_ := mz (below_step (by repeat (first | (with_reducible first | exact HB.out | apply below_alloc | apply pw_below_drewN | apply below_drew1) | exact HB.out)) hb); clear HO_8; clear HO_10; clear HO_11; clear HO_12; clear HB; have HO_8 := n0_; have HO_10 := n1_; have HO_11 := n2_; have HO_12 := n3_; have HO125 := n4_; have HB := n5_; clear n0_ n1_ n2_ n3_ n4_ n5_; (try clear hb); (try clear hb2); (try clear hk); (try clear hi); (try clear ho0); obtain ⟨Ao41, co41, eo41⟩ := Kd.R_slice HO125.out; subst eo41) | ((with_reducible refine gate_callee (f := 8) rfl ?_); refine goesL_ (some 59) rfl rfl Try.func8 (by kernel_rfl) rfl #[.slice Ao21 t112.length co21, .slice Ao41 t123.length co41] rfl (by (try simp only [List.map_toArray, List.map_cons, List.map_nil]); first | done | rfl | (simp only [List.length_drop, List.length_take]; rfl)) ?_; (with_reducible refine (laws_eqStringS.calls kj12 _ _ t112 _ _ t123 true _ ?side1 ?side2 ?side3 ?side4 A32.out).mono ?_); (case side1 => repeat (first | exact (Kd.R_reads' HO_10.out).2.2 | (with_reducible refine Kd.C_alloc ?_ _) | (with_reducible refine Kd.C_drewN ?_ _) | (with_reducible refine Kd.C_drew ?_))); (case side2 => exact (Kd.R_reads' HO_10.out).2.1); (case side3 => repeat (first | exact (Kd.R_reads' HO125.out).2.2 | (with_reducible refine Kd.C_alloc ?_ _) | (with_reducible refine Kd.C_drewN ?_ _) | (with_reducible refine Kd.C_drew ?_))); (case side4 => exact (Kd.R_reads' HO125.out).2.1); rintro e w' ⟨rfl, ⟨nd, rfl⟩⟩; refine ⟨_, rfl, ?_⟩) | ((with_reducible refine gate_callee (f := 16) rfl ?_); refine goesL_ (some 63) rfl rfl Try.func16 (by kernel_rfl) rfl #[.slice A1 l1.length c1] rfl (by (try simp only [List.map_toArray, List.map_cons, List.map_nil]); first | done | rfl | (simp only [List.length_drop, List.length_take]; rfl)) ?_; (with_reducible refine (laws_toIntS.calls kj12 _ _ l1 t127 _ ?side1 ?side2 A34.out).mono ?_); (case side1 => repeat (first | exact (Kd.C_below HR1.out (by repeat (first | (with_reducible first | exact HB.out | apply below_alloc | apply pw_below_drewN | apply below_drew1) | exact HB.out))) | (with_reducible refine Kd.C_alloc ?_ _) | (with_reducible refine Kd.C_drewN ?_ _) | (with_reducible refine Kd.C_drew ?_))); (case side2 => exact HC1.out); rintro e w42 ⟨v128, rfl, ho0, hb⟩; refine ⟨_, rfl, ?_⟩; have n0_ := mz (Kd.R_below (by (with_reducible repeat (first | apply Kd.R_alloc | apply Kd.R_drewN | apply Kd.R_drew)); exact HO_8.out) hb); have n1_ := mz (Kd.R_below (by (with_reducible repeat (first | apply Kd.R_alloc | apply Kd.R_drewN | apply Kd.R_drew)); exact HO_10.out) hb); have n2_ := mz (Kd.R_elder' (by (with_reducible repeat (first | apply Kd.R_alloc | apply Kd.R_drewN | apply Kd.R_drew)); exact HO_11.out) (Kd.R_base ho0) hb); have n3_ := mz (Kd.R_below (by (with_reducible repeat (first | apply Kd.R_alloc | apply Kd.R_drewN | apply Kd.R_drew)); exact HO_12.out) hb); have n4_ := mz (Kd.R_below (by (with_reducible repeat (first | apply Kd.R_alloc | apply Kd.R_drewN | apply Kd.R_drew)); exact HO125.out) hb); have n5_ := mz (Kd.R_lower (Kd.R_new' ho0 (Kd.R_lt (by (with_reducible repeat (first | apply Kd.R_alloc | apply Kd.R_drewN | apply Kd.R_drew)); exact HO_11.out))) (below_size (by repeat (first | (with_reducible first | exact HB.out | apply below_alloc | apply pw_below_drewN | apply below_drew1) | exact HB.out)))); have n6_ := mz (below_step (by repeat (first | (with_reducible first | exact HB.out | apply below_alloc | apply pw_below_drewN | apply below_drew1) | exact HB.out)) hb); clear HO_8; clear HO_10; clear HO_11; clear HO_12; clear HO125; clear HB; have HO_8 := n0_; have HO_10 := n1_; have HO_11 := n2_; have HO_12 := n3_; have HO125 := n4_; have HO129 := n5_; have HB := n6_; clear n0_ n1_ n2_ n3_ n4_ n5_ n6_; (try clear hb); (try clear hb2); (try clear hk); (try clear hi); (try clear ho0); obtain ⟨Ao43, co43, eo43⟩ := Kd.R_slice HO129.out; subst eo43) | ((with_reducible refine gate_callee (f := 18) rfl ?_); refine goesL_ (some 64) rfl rfl Try.func18 (by kernel_rfl) rfl #[.slice Ao22 t115.length co22, .slice Ao43 t127.length co43] rfl (by (try simp only [List.map_toArray, List.map_cons, List.map_nil]); first | done | rfl | (simp only [List.length_drop, List.length_take]; rfl)) ?_; (with_reducible refine (laws_eqIntS.calls kj12 _ _ t115 _ _ t127 true _ ?side1 ?side2 ?side3 ?side4 A35.out).mono ?_); (case side1 => repeat (first | exact (Kd.R_reads' HO_11.out).2.2 | (with_reducible refine Kd.C_alloc ?_ _) | (with_reducible refine Kd.C_drewN ?_ _) | (with_reducible refine Kd.C_drew ?_))); (case side2 => exact (Kd.R_reads' HO_11.out).2.1); (case side3 => repeat (first | exact (Kd.R_reads' HO129.out).2.2 | (with_reducible refine Kd.C_alloc ?_ _) | (with_reducible refine Kd.C_drewN ?_ _) | (with_reducible refine Kd.C_drew ?_))); (case side4 => exact (Kd.R_reads' HO129.out).2.1); rintro e w' ⟨rfl, ⟨nd, rfl⟩⟩; refine ⟨_, rfl, ?_⟩) | ((with_reducible refine gate_callee (f := 9) rfl ?_); refine goesL_ (some 68) rfl rfl Try.func9 (by kernel_rfl) rfl #[.slice Ao21 t112.length co21, .int .i64 1] rfl (by (try simp only [List.map_toArray, List.map_cons, List.map_nil]); first | done | rfl | (simp only [List.length_drop, List.length_take]; rfl)) ?_; (with_reducible refine (laws_markStringS.calls kj12 (fun k_ => some k_ = (.slice Ao21 t112.length co21 : Value).ownBlock) (.slice Ao21 t112.length co21) t112 1 t131 t132 w _ ?side1 ?side2 A37.out).mono ?_); (case side1 => repeat (first | (with_reducible first | exact HB.out | apply below_alloc | apply pw_below_drewN | apply below_drew1) | exact HB.out)); (case side2 => exact Kd.R_tight rfl HO_10.out); rintro e w44 ⟨rfl, hy0, hb, hkp⟩; refine ⟨_, rfl, ?_⟩; have n0_ := mz (Kd.R_mono (ok' := fun k_ => some k_ ≠ (.slice Ao21 t112.length co21 : Value).ownBlock ∧ some k_ ≠ (v120 : Value).ownBlock ∧ some k_ ≠ (.slice Ao41 t123.length co41 : Value).ownBlock) (Kd.R_keptB (HO_8.out) hkp (fun k_ hk_ hs_ => (hk_.1.1) hs_)) (fun k_ hk_ => ⟨hk_.1.1.1, hk_.1.1.2, hk_.1.2⟩)); have n1_ := mz (Kd.R_reok rfl hy0 (fun k_ e_ => HO_10.out.1 k_ e_)); have n2_ := mz (Kd.R_mono (ok' := fun k_ => some k_ ≠ (.slice Ao43 t127.length co43 : Value).ownBlock) (Kd.R_keptB ((Kd.R_apart' HO_11.out (Kd.R_typed HO_10.out) (by decide))) hkp (fun k_ hk_ hs_ => (hk_.2) hs_)) (fun k_ hk_ => hk_.1.1.2)); have n3_ := mz (Kd.R_mono (ok' := fun k_ => some k_ ≠ (v110 : Value).ownBlock ∧ some k_ ≠ (.slice Ao21 t112.length co21 : Value).ownBlock ∧ some k_ ≠ (.slice Ao41 t123.length co41 : Value).ownBlock) (Kd.R_keptB (HO_12.out) hkp (fun k_ hk_ hs_ => (hk_.1.2) hs_)) (fun k_ hk_ => ⟨hk_.1.1.1, hk_.1.1.2, hk_.1.2⟩)); have n4_ := mz (Kd.R_mono (ok' := fun k_ => some k_ ≠ (v110 : Value).ownBlock ∧ some k_ ≠ (.slice Ao21 t112.length co21 : Value).ownBlock ∧ some k_ ≠ (v120 : Value).ownBlock) (Kd.R_keptB (HO125.out) hkp (fun k_ hk_ hs_ => (hk_.1.2) hs_)) (fun k_ hk_ => ⟨hk_.1.1.1.2, hk_.1.1.2, hk_.1.2⟩)); have n5_ := mz (Kd.R_mono (ok' := fun k_ => some k_ ≠ (.slice Ao22 t115.length co22 : Value).ownBlock) (Kd.R_keptB ((Kd.R_apart' HO129.out (Kd.R_typed HO_10.out) (by decide))) hkp (fun k_ hk_ hs_ => (hk_.2) hs_)) (fun k_ hk_ => hk_.1.1.2)); have n6_ := mz (hb); clear HO_8; clear HO_10; clear HO_11; clear HO_12; clear HO125; clear HO129; clear HB; have HO_8 := n0_; have HO_10 := n1_; have HO_11 := n2_; have HO_12 := n3_; have HO125 := n4_; have HO129 := n5_; have HB := n6_; clear n0_ n1_ n2_ n3_ n4_ n5_ n6_; (try clear hb); (try clear hkp); (try clear hy0)) | ((with_reducible refine gate_callee (f := 19) rfl ?_); refine goesL_ (some 71) rfl rfl Try.func19 (by kernel_rfl) rfl #[.slice Ao22 t115.length co22, .int .i64 t131] rfl (by (try simp only [List.map_toArray, List.map_cons, List.map_nil]); first | done | rfl | (simp only [List.length_drop, List.length_take]; rfl)) ?_; (with_reducible refine (laws_markIntS.calls kj12 (fun k_ => some k_ = (.slice Ao22 t115.length co22 : Value).ownBlock) (.slice Ao22 t115.length co22) t115 t131 t133 t134 w _ ?side1 ?side2 A38.out).mono ?_); (case side1 => repeat (first | (with_reducible first | exact HB.out | apply below_alloc | apply pw_below_drewN | apply below_drew1) | exact HB.out)); (case side2 => exact Kd.R_tight rfl HO_11.out); rintro e w45 ⟨rfl, hy0, hb, hkp⟩; refine ⟨_, rfl, ?_⟩; have n0_ := mz (Kd.R_mono (ok' := fun k_ => some k_ ≠ (.slice Ao21 t112.length co21 : Value).ownBlock ∧ some k_ ≠ (v120 : Value).ownBlock ∧ some k_ ≠ (.slice Ao41 t123.length co41 : Value).ownBlock) (Kd.R_keptB ((Kd.R_apart' HO_8.out (Kd.R_typed HO_11.out) (by decide))) hkp (fun k_ hk_ hs_ => (hk_.2) hs_)) (fun k_ hk_ => ⟨hk_.1.1.1, hk_.1.1.2.1, hk_.1.1.2.2⟩)); have n1_ := mz (Kd.R_mono (ok' := fun k_ => some k_ ≠ (v110 : Value).ownBlock ∧ some k_ ≠ (v120 : Value).ownBlock ∧ some k_ ≠ (.slice Ao41 t123.length co41 : Value).ownBlock) (Kd.R_keptB ((Kd.R_apart' HO_10.out (Kd.R_typed HO_11.out) (by decide))) hkp (fun k_ hk_ hs_ => (hk_.2) hs_)) (fun k_ hk_ => ⟨hk_.1.1.1.1, hk_.1.1.1.2, hk_.1.1.2⟩)); have n2_ := mz (Kd.R_reok rfl hy0 (fun k_ e_ => HO_11.out.1 k_ e_)); have n3_ := mz (Kd.R_mono (ok' := fun k_ => some k_ ≠ (v110 : Value).ownBlock ∧ some k_ ≠ (.slice Ao21 t112.length co21 : Value).ownBlock ∧ some k_ ≠ (.slice Ao41 t123.length co41 : Value).ownBlock) (Kd.R_keptB ((Kd.R_apart' HO_12.out (Kd.R_typed HO_11.out) (by decide))) hkp (fun k_ hk_ hs_ => (hk_.2) hs_)) (fun k_ hk_ => ⟨hk_.1.1.1, hk_.1.1.2.1, hk_.1.1.2.2⟩)); have n4_ := mz (Kd.R_mono (ok' := fun k_ => some k_ ≠ (v110 : Value).ownBlock ∧ some k_ ≠ (.slice Ao21 t112.length co21 : Value).ownBlock ∧ some k_ ≠ (v120 : Value).ownBlock) (Kd.R_keptB ((Kd.R_apart' HO125.out (Kd.R_typed HO_11.out) (by decide))) hkp (fun k_ hk_ hs_ => (hk_.2) hs_)) (fun k_ hk_ => ⟨hk_.1.1.1, hk_.1.1.2.1, hk_.1.1.2.2⟩)); have n5_ := mz (Kd.R_mono (ok' := fun k_ => some k_ ≠ (.slice Ao22 t115.length co22 : Value).ownBlock) (Kd.R_keptB (HO129.out) hkp (fun k_ hk_ hs_ => (hk_) hs_)) (fun k_ hk_ => hk_.1)); have n6_ := mz (hb); clear HO_8; clear HO_10; clear HO_11; clear HO_12; clear HO125; clear HO129; clear HB; have HO_8 := n0_; have HO_10 := n1_; have HO_11 := n2_; have HO_12 := n3_; have HO125 := n4_; have HO129 := n5_; have HB := n6_; clear n0_ n1_ n2_ n3_ n4_ n5_ n6_; (try clear hb); (try clear hkp); (try clear hy0)))
                (try simp only [Act.put, List.setIfInBounds_toArray, List.set_cons_zero, List.set_cons_succ])
                go_cut [84] (fun v84 wc => ∃ (kq : Nat) (x84_38 : Bool), v84 = .bool x84_38 ∧ Aside0 (laws_FnExactBreakAt.j1 kq l0 l1 a2 t108 t109 t118 x84_38 = some r) ∧ Aside0 (kq ≤ kj12) ∧ Aside0 (Kd.R Kd.string 9 wc w.heap.size (fun k_ => some k_ ≠ (v120 : Value).ownBlock) v110 t108) ∧ Aside0 (Kd.R Kd.string 9 wc w.heap.size (fun k_ => some k_ ≠ (v110 : Value).ownBlock) v120 t118) ∧ Aside0 (Below w.heap.size w wc))
                case first =>
                  have H := HC39.out
                  clear HC39
                  by_cases c46 : t133 < 0
                  · rw [if_pos c46] at H
                    have c46b0 : decide (t133 < 0) = true := decide_eq_true c46
                    clear c46
                    (first | rw [c46b0] | (simp only [i64_w, i32_w]; rw [c46b0]) | skip)
                    have H' := mz H
                    clear H
                    go_wp2
                    go_meet
                    case rel => exact ⟨_, (true), (by first | rfl | (simp; done) | (simp [*]; done)), H', ⟨by have := HJ12.out; first | omega | exact Nat.le_refl _⟩, ⟨by (with_reducible repeat (first | apply Kd.R_alloc | apply Kd.R_drewN | apply Kd.R_drew)); exact Kd.R_mono HO_8.out (fun _ hk => hk.2.1)⟩, ⟨by (with_reducible repeat (first | apply Kd.R_alloc | apply Kd.R_drewN | apply Kd.R_drew)); exact Kd.R_mono HO_12.out (fun _ hk => hk.1)⟩, ⟨by repeat (first | (with_reducible first | exact HB.out | apply below_alloc | apply pw_below_drewN | apply below_drew1) | exact HB.out)⟩⟩
                  · rw [if_neg c46] at H
                    have c46b0 : decide (t133 < 0) = false := decide_eq_false c46
                    clear c46
                    (first | rw [c46b0] | (simp only [i64_w, i32_w]; rw [c46b0]) | skip)
                    replace H := be0_ H
                    obtain ⟨t135, A470, H⟩ := H
                    replace H : (if t135 = true then (laws_FnExactBreakAt.j1 kj12 l0 l1 a2 t108 t109 t118 (t119 != t109)) else (laws_FnExactBreakAt.j1 kj12 l0 l1 a2 t108 t109 t118 true)) = some r := H
                    have A47 := mz A470
                    clear A470
                    by_cases c48 : t135 = true
                    · subst c48
                      have H1 : (laws_FnExactBreakAt.j1 kj12 l0 l1 a2 t108 t109 t118 (t119 != t109)) = some r := by rw [if_pos rfl] at H; exact H
                      clear H
                      have H := H1
                      clear H1
                      have H' := mz H
                      clear H
                      obtain ⟨Ao49, co49, eo49⟩ := Kd.R_slice HO_12.out
                      subst eo49
                      obtain ⟨Ao50, co50, eo50⟩ := Kd.R_slice HO_8.out
                      subst eo50
                      go_wp2_with (first | (go_at_call 8; (with_reducible refine (laws_eqStringS.calls kj12 _ _ t118 _ _ t108 true _ ?side1 ?side2 ?side3 ?side4 A47.out).mono ?_); (case side1 => repeat (first | exact (Kd.R_reads' HO_12.out).2.2 | (with_reducible refine Kd.C_alloc ?_ _) | (with_reducible refine Kd.C_drewN ?_ _) | (with_reducible refine Kd.C_drew ?_))); (case side2 => exact (Kd.R_reads' HO_12.out).2.1); (case side3 => repeat (first | exact (Kd.R_reads' HO_8.out).2.2 | (with_reducible refine Kd.C_alloc ?_ _) | (with_reducible refine Kd.C_drewN ?_ _) | (with_reducible refine Kd.C_drew ?_))); (case side4 => exact (Kd.R_reads' HO_8.out).2.1); rintro e w' ⟨rfl, ⟨nd, rfl⟩⟩))
                      go_meet
                      case rel => exact ⟨_, ((t119 != t109)), (by first | rfl | (simp; done) | (simp [*]; done)), H', ⟨by have := HJ12.out; first | omega | exact Nat.le_refl _⟩, ⟨by (with_reducible repeat (first | apply Kd.R_alloc | apply Kd.R_drewN | apply Kd.R_drew)); exact Kd.R_mono HO_8.out (fun _ hk => hk.2.1)⟩, ⟨by (with_reducible repeat (first | apply Kd.R_alloc | apply Kd.R_drewN | apply Kd.R_drew)); exact Kd.R_mono HO_12.out (fun _ hk => hk.1)⟩, ⟨by repeat (first | (with_reducible first | exact HB.out | apply below_alloc | apply pw_below_drewN | apply below_drew1) | exact HB.out)⟩⟩
                    · replace c48 := Bool.eq_false_iff.mpr c48
                      subst c48
                      have H1 : (laws_FnExactBreakAt.j1 kj12 l0 l1 a2 t108 t109 t118 true) = some r := by rw [if_neg (show ¬ (false = true) by decide)] at H; exact H
                      clear H
                      have H := H1
                      clear H1
                      have H' := mz H
                      clear H
                      obtain ⟨Ao51, co51, eo51⟩ := Kd.R_slice HO_12.out
                      subst eo51
                      obtain ⟨Ao52, co52, eo52⟩ := Kd.R_slice HO_8.out
                      subst eo52
                      go_wp2_with (first | (go_at_call 8; (with_reducible refine (laws_eqStringS.calls kj12 _ _ t118 _ _ t108 false _ ?side1 ?side2 ?side3 ?side4 A47.out).mono ?_); (case side1 => repeat (first | exact (Kd.R_reads' HO_12.out).2.2 | (with_reducible refine Kd.C_alloc ?_ _) | (with_reducible refine Kd.C_drewN ?_ _) | (with_reducible refine Kd.C_drew ?_))); (case side2 => exact (Kd.R_reads' HO_12.out).2.1); (case side3 => repeat (first | exact (Kd.R_reads' HO_8.out).2.2 | (with_reducible refine Kd.C_alloc ?_ _) | (with_reducible refine Kd.C_drewN ?_ _) | (with_reducible refine Kd.C_drew ?_))); (case side4 => exact (Kd.R_reads' HO_8.out).2.1); rintro e w' ⟨rfl, ⟨nd, rfl⟩⟩))
                      go_meet
                      case rel => exact ⟨_, (true), (by first | rfl | (simp; done) | (simp [*]; done)), H', ⟨by have := HJ12.out; first | omega | exact Nat.le_refl _⟩, ⟨by (with_reducible repeat (first | apply Kd.R_alloc | apply Kd.R_drewN | apply Kd.R_drew)); exact Kd.R_mono HO_8.out (fun _ hk => hk.2.1)⟩, ⟨by (with_reducible repeat (first | apply Kd.R_alloc | apply Kd.R_drewN | apply Kd.R_drew)); exact Kd.R_mono HO_12.out (fun _ hk => hk.1)⟩, ⟨by repeat (first | (with_reducible first | exact HB.out | apply below_alloc | apply pw_below_drewN | apply below_drew1) | exact HB.out)⟩⟩
                case rest =>
                  clear HC39
                  try clear c1
                  try clear c2
                  try clear p2
                  try clear c3
                  try clear c4
                  try clear c4b0
                  try clear c4b1
                  try clear c5
                  try clear c6
                  try clear c6b0
                  try clear c8
                  try clear c9
                  try clear c11
                  try clear c13
                  try clear c15
                  try clear c16
                  try clear c17
                  try clear c18
                  try clear c19
                  try clear c25
                  try clear c30
                  try clear c33
                  try clear c36
                  try clear c46
                  try clear c46b0
                  try clear c48
                  try clear p2
                  obtain ⟨kq, x84_38, rfl, HA, HJ38, HO_8, HO_12, HB⟩ := hcut
                  cases kq with
                  | zero => exact absurd HA.out (by simp [laws_FnExactBreakAt.j1])
                  | succ kj38 =>
                    have H := HA.out
                    clear HA
                    simp only [laws_FnExactBreakAt.j1] at H
                    by_cases c53 : x84_38 = true
                    · subst c53
                      have H1 : (some false) = some r := by rw [if_pos rfl] at H; exact H
                      clear H
                      have H := H1
                      clear H1
                      obtain rfl := Option.some.inj H
                      go_wp2
                      go_ret
                      exact ⟨by first | rfl | (simp [errW_none, errW_some] <;> rfl) | (simp [*, errW_none, errW_some] <;> rfl), by repeat (first | (with_reducible first | exact HB.out | apply below_alloc | apply pw_below_drewN | apply below_drew1) | exact HB.out)⟩
                    · replace c53 := Bool.eq_false_iff.mpr c53
                      subst c53
                      have H1 : ((laws_markStringS.f kj38 t118 1).bind fun bt136 => ((laws_heldStringS.f kj38 bt136.2 1).bind fun t138 => (if t138 < 0 then (some false) else (if t138 = bt136.1 then ((laws_toStringS.f kj38 l0).bind fun t139 => ((laws_toIntS.f kj38 l1).bind fun t142 => ((impl_BreakAt.f t139 t142 a2).bind fun bt145 => ((laws_eqStringS.f kj38 bt145.1 t108).bind fun t149 => (if t149 = true then (laws_FnExactBreakAt.j2 kj38 bt136.2 bt136.1 (bt145.2 != t109)) else (laws_FnExactBreakAt.j2 kj38 bt136.2 bt136.1 true)))))) else (some false))))) = some r := by rw [if_neg (show ¬ (false = true) by decide)] at H; exact H
                      clear H
                      have H := H1
                      clear H1
                      replace H := be0_ H
                      obtain ⟨⟨t136, t137⟩, A540, H⟩ := H
                      replace H : ((laws_heldStringS.f kj38 t137 1).bind fun t138 => (if t138 < 0 then (some false) else (if t138 = t136 then ((laws_toStringS.f kj38 l0).bind fun t139 => ((laws_toIntS.f kj38 l1).bind fun t142 => ((impl_BreakAt.f t139 t142 a2).bind fun bt145 => ((laws_eqStringS.f kj38 bt145.1 t108).bind fun t149 => (if t149 = true then (laws_FnExactBreakAt.j2 kj38 t137 t136 (bt145.2 != t109)) else (laws_FnExactBreakAt.j2 kj38 t137 t136 true)))))) else (some false)))) = some r := H
                      have A54 := mz A540
                      clear A540
                      replace H := be0_ H
                      obtain ⟨t138, A550, H⟩ := H
                      replace H : (if t138 < 0 then (some false) else (if t138 = t136 then ((laws_toStringS.f kj38 l0).bind fun t139 => ((laws_toIntS.f kj38 l1).bind fun t142 => ((impl_BreakAt.f t139 t142 a2).bind fun bt145 => ((laws_eqStringS.f kj38 bt145.1 t108).bind fun t149 => (if t149 = true then (laws_FnExactBreakAt.j2 kj38 t137 t136 (bt145.2 != t109)) else (laws_FnExactBreakAt.j2 kj38 t137 t136 true)))))) else (some false))) = some r := H
                      have A55 := mz A550
                      clear A550
                      by_cases c56 : t138 < 0
                      · rw [if_pos c56] at H
                        have c56b0 : decide (t138 < 0) = true := decide_eq_true c56
                        clear c56
                        obtain rfl := Option.some.inj H
                        obtain ⟨Ao57, co57, eo57⟩ := Kd.R_slice HO_12.out
                        subst eo57
                        go_wp2_with (first | ((with_reducible refine gate_callee (f := 9) rfl ?_); refine goesL_ (some 87) rfl rfl Try.func9 (by kernel_rfl) rfl #[.slice Ao57 t118.length co57, .int .i64 1] rfl (by (try simp only [List.map_toArray, List.map_cons, List.map_nil]); first | done | rfl | (simp only [List.length_drop, List.length_take]; rfl)) ?_; (with_reducible refine (laws_markStringS.calls kj38 (fun k_ => some k_ = (.slice Ao57 t118.length co57 : Value).ownBlock) (.slice Ao57 t118.length co57) t118 1 t136 t137 w _ ?side1 ?side2 A54.out).mono ?_); (case side1 => repeat (first | (with_reducible first | exact HB.out | apply below_alloc | apply pw_below_drewN | apply below_drew1) | exact HB.out)); (case side2 => exact Kd.R_tight rfl HO_12.out); rintro e w58 ⟨rfl, hy0, hb, hkp⟩; refine ⟨_, rfl, ?_⟩; have n0_ := mz (Kd.R_mono (ok' := fun k_ => some k_ ≠ (.slice Ao57 t118.length co57 : Value).ownBlock) (Kd.R_keptB (HO_8.out) hkp (fun k_ hk_ hs_ => (hk_) hs_)) (fun k_ hk_ => hk_.1)); have n1_ := mz (Kd.R_reok rfl hy0 (fun k_ e_ => HO_12.out.1 k_ e_)); have n2_ := mz (hb); clear HO_8; clear HO_12; clear HB; have HO_8 := n0_; have HO_12 := n1_; have HB := n2_; clear n0_ n1_ n2_; (try clear hb); (try clear hkp); (try clear hy0)) | ((with_reducible refine gate_callee (f := 10) rfl ?_); refine goesL_ (some 90) rfl rfl Try.func10 (by kernel_rfl) rfl #[.slice Ao57 t137.length co57, .int .i64 1] rfl (by (try simp only [List.map_toArray, List.map_cons, List.map_nil]); first | done | (rw [show t137.length = t118.length from (Kd.R_reads' HO_12.out).1.symm] <;> rfl) | rfl | (simp only [List.length_drop, List.length_take]; rfl)) ?_; (with_reducible refine (laws_heldStringS.calls kj38 _ _ t137 1 t138 _ ?side1 ?side2 A55.out).mono ?_); (case side1 => repeat (first | exact (Kd.R_reads' HO_12.out).2.2 | (with_reducible refine Kd.C_alloc ?_ _) | (with_reducible refine Kd.C_drewN ?_ _) | (with_reducible refine Kd.C_drew ?_))); (case side2 => rw [show t137.length = t118.length from (Kd.R_reads' HO_12.out).1.symm]; exact (Kd.R_reads' HO_12.out).2.1); rintro e w59 ⟨rfl, hb⟩; refine ⟨_, rfl, ?_⟩; have n0_ := mz (Kd.R_below (by (with_reducible repeat (first | apply Kd.R_alloc | apply Kd.R_drewN | apply Kd.R_drew)); exact HO_8.out) hb); have n1_ := mz (Kd.R_below (by (with_reducible repeat (first | apply Kd.R_alloc | apply Kd.R_drewN | apply Kd.R_drew)); exact HO_12.out) hb); have n2_ := mz (below_step (by repeat (first | (with_reducible first | exact HB.out | apply below_alloc | apply pw_below_drewN | apply below_drew1) | exact HB.out)) hb); clear HO_8; clear HO_12; clear HB; have HO_8 := n0_; have HO_12 := n1_; have HB := n2_; clear n0_ n1_ n2_; (try clear hb); (try clear hb2); (try clear hk); (try clear hi)))
                        go_ret
                        exact ⟨by first | rfl | (simp [errW_none, errW_some] <;> rfl) | (simp [*, errW_none, errW_some] <;> rfl), by repeat (first | (with_reducible first | exact HB.out | apply below_alloc | apply pw_below_drewN | apply below_drew1) | exact HB.out)⟩
                      · rw [if_neg c56] at H
                        have c56b0 : decide (t138 < 0) = false := decide_eq_false c56
                        clear c56
                        by_cases c60 : t138 = t136
                        · rw [if_pos c60] at H
                          have c60b0 : (t138 == t136) = true := beq_iff_eq.mpr c60
                          have c60b1 : (t138 != t136) = false := bne_eq_false_iff_eq.mpr c60
                          clear c60
                          replace H := be0_ H
                          obtain ⟨t139, A610, H⟩ := H
                          replace H : ((laws_toIntS.f kj38 l1).bind fun t142 => ((impl_BreakAt.f t139 t142 a2).bind fun bt145 => ((laws_eqStringS.f kj38 bt145.1 t108).bind fun t149 => (if t149 = true then (laws_FnExactBreakAt.j2 kj38 t137 t136 (bt145.2 != t109)) else (laws_FnExactBreakAt.j2 kj38 t137 t136 true))))) = some r := H
                          have A61 := mz A610
                          clear A610
                          replace H := be0_ H
                          obtain ⟨t142, A620, H⟩ := H
                          replace H : ((impl_BreakAt.f t139 t142 a2).bind fun bt145 => ((laws_eqStringS.f kj38 bt145.1 t108).bind fun t149 => (if t149 = true then (laws_FnExactBreakAt.j2 kj38 t137 t136 (bt145.2 != t109)) else (laws_FnExactBreakAt.j2 kj38 t137 t136 true)))) = some r := H
                          have A62 := mz A620
                          clear A620
                          replace H := be0_ H
                          obtain ⟨⟨t145, t146⟩, A630, H⟩ := H
                          replace H : ((laws_eqStringS.f kj38 t145 t108).bind fun t149 => (if t149 = true then (laws_FnExactBreakAt.j2 kj38 t137 t136 (t146 != t109)) else (laws_FnExactBreakAt.j2 kj38 t137 t136 true))) = some r := H
                          have A63 := mz A630
                          clear A630
                          have HC64 := mz H
                          clear H
                          obtain ⟨Ao65, co65, eo65⟩ := Kd.R_slice HO_12.out
                          subst eo65
                          go_upto_region 31 with (first | ((with_reducible refine gate_callee (f := 9) rfl ?_); refine goesL_ (some 87) rfl rfl Try.func9 (by kernel_rfl) rfl #[.slice Ao65 t118.length co65, .int .i64 1] rfl (by (try simp only [List.map_toArray, List.map_cons, List.map_nil]); first | done | rfl | (simp only [List.length_drop, List.length_take]; rfl)) ?_; (with_reducible refine (laws_markStringS.calls kj38 (fun k_ => some k_ = (.slice Ao65 t118.length co65 : Value).ownBlock) (.slice Ao65 t118.length co65) t118 1 t136 t137 w _ ?side1 ?side2 A54.out).mono ?_); (case side1 => repeat (first | (with_reducible first | exact HB.out | apply below_alloc | apply pw_below_drewN | apply below_drew1) | exact HB.out)); (case side2 => exact Kd.R_tight rfl HO_12.out); rintro e w66 ⟨rfl, hy0, hb, hkp⟩; refine ⟨_, rfl, ?_⟩; have n0_ := mz (Kd.R_mono (ok' := fun k_ => some k_ ≠ (.slice Ao65 t118.length co65 : Value).ownBlock) (Kd.R_keptB (HO_8.out) hkp (fun k_ hk_ hs_ => (hk_) hs_)) (fun k_ hk_ => hk_.1)); have n1_ := mz (Kd.R_reok rfl hy0 (fun k_ e_ => HO_12.out.1 k_ e_)); have n2_ := mz (hb); clear HO_8; clear HO_12; clear HB; have HO_8 := n0_; have HO_12 := n1_; have HB := n2_; clear n0_ n1_ n2_; (try clear hb); (try clear hkp); (try clear hy0)) | ((with_reducible refine gate_callee (f := 10) rfl ?_); refine goesL_ (some 90) rfl rfl Try.func10 (by kernel_rfl) rfl #[.slice Ao65 t137.length co65, .int .i64 1] rfl (by (try simp only [List.map_toArray, List.map_cons, List.map_nil]); first | done | (rw [show t137.length = t118.length from (Kd.R_reads' HO_12.out).1.symm] <;> rfl) | rfl | (simp only [List.length_drop, List.length_take]; rfl)) ?_; (with_reducible refine (laws_heldStringS.calls kj38 _ _ t137 1 t138 _ ?side1 ?side2 A55.out).mono ?_); (case side1 => repeat (first | exact (Kd.R_reads' HO_12.out).2.2 | (with_reducible refine Kd.C_alloc ?_ _) | (with_reducible refine Kd.C_drewN ?_ _) | (with_reducible refine Kd.C_drew ?_))); (case side2 => rw [show t137.length = t118.length from (Kd.R_reads' HO_12.out).1.symm]; exact (Kd.R_reads' HO_12.out).2.1); rintro e w67 ⟨rfl, hb⟩; refine ⟨_, rfl, ?_⟩; have n0_ := mz (Kd.R_below (by (with_reducible repeat (first | apply Kd.R_alloc | apply Kd.R_drewN | apply Kd.R_drew)); exact HO_8.out) hb); have n1_ := mz (Kd.R_below (by (with_reducible repeat (first | apply Kd.R_alloc | apply Kd.R_drewN | apply Kd.R_drew)); exact HO_12.out) hb); have n2_ := mz (below_step (by repeat (first | (with_reducible first | exact HB.out | apply below_alloc | apply pw_below_drewN | apply below_drew1) | exact HB.out)) hb); clear HO_8; clear HO_12; clear HB; have HO_8 := n0_; have HO_12 := n1_; have HB := n2_; clear n0_ n1_ n2_; (try clear hb); (try clear hb2); (try clear hk); (try clear hi)) | ((with_reducible refine gate_callee (f := 13) rfl ?_); refine goesL_ (some 98) rfl rfl Try.func13 (by kernel_rfl) rfl #[.slice A0 l0.length c0] rfl (by (try simp only [List.map_toArray, List.map_cons, List.map_nil]); first | done | rfl | (simp only [List.length_drop, List.length_take]; rfl)) ?_; (with_reducible refine (laws_toStringS.calls kj38 _ _ l0 t139 _ ?side1 ?side2 A61.out).mono ?_); (case side1 => repeat (first | exact (Kd.C_below HR0.out HB.out) | (with_reducible refine Kd.C_alloc ?_ _) | (with_reducible refine Kd.C_drewN ?_ _) | (with_reducible refine Kd.C_drew ?_))); (case side2 => exact HC0.out); rintro e w68 ⟨v140, rfl, ho0, hb⟩; refine ⟨_, rfl, ?_⟩; have n0_ := mz (Kd.R_elder' (by (with_reducible repeat (first | apply Kd.R_alloc | apply Kd.R_drewN | apply Kd.R_drew)); exact HO_8.out) (Kd.R_base ho0) hb); have n1_ := mz (Kd.R_elder' (by (with_reducible repeat (first | apply Kd.R_alloc | apply Kd.R_drewN | apply Kd.R_drew)); exact HO_12.out) (Kd.R_base ho0) hb); have n2_ := mz (Kd.R_lower (Kd.R_new' (Kd.R_new' ho0 (Kd.R_lt (by (with_reducible repeat (first | apply Kd.R_alloc | apply Kd.R_drewN | apply Kd.R_drew)); exact HO_8.out))) (Kd.R_lt (by (with_reducible repeat (first | apply Kd.R_alloc | apply Kd.R_drewN | apply Kd.R_drew)); exact HO_12.out))) (below_size (by repeat (first | (with_reducible first | exact HB.out | apply below_alloc | apply pw_below_drewN | apply below_drew1) | exact HB.out)))); have n3_ := mz (below_step (by repeat (first | (with_reducible first | exact HB.out | apply below_alloc | apply pw_below_drewN | apply below_drew1) | exact HB.out)) hb); clear HO_8; clear HO_12; clear HB; have HO_8 := n0_; have HO_12 := n1_; have HO141 := n2_; have HB := n3_; clear n0_ n1_ n2_ n3_; (try clear hb); (try clear hb2); (try clear hk); (try clear hi); (try clear ho0)) | ((with_reducible refine gate_callee (f := 16) rfl ?_); refine goesL_ (some 100) rfl rfl Try.func16 (by kernel_rfl) rfl #[.slice A1 l1.length c1] rfl (by (try simp only [List.map_toArray, List.map_cons, List.map_nil]); first | done | rfl | (simp only [List.length_drop, List.length_take]; rfl)) ?_; (with_reducible refine (laws_toIntS.calls kj38 _ _ l1 t142 _ ?side1 ?side2 A62.out).mono ?_); (case side1 => repeat (first | exact (Kd.C_below HR1.out HB.out) | (with_reducible refine Kd.C_alloc ?_ _) | (with_reducible refine Kd.C_drewN ?_ _) | (with_reducible refine Kd.C_drew ?_))); (case side2 => exact HC1.out); rintro e w69 ⟨v143, rfl, ho0, hb⟩; refine ⟨_, rfl, ?_⟩; have n0_ := mz (Kd.R_below (by (with_reducible repeat (first | apply Kd.R_alloc | apply Kd.R_drewN | apply Kd.R_drew)); exact HO_8.out) hb); have n1_ := mz (Kd.R_below (by (with_reducible repeat (first | apply Kd.R_alloc | apply Kd.R_drewN | apply Kd.R_drew)); exact HO_12.out) hb); have n2_ := mz (Kd.R_below (by (with_reducible repeat (first | apply Kd.R_alloc | apply Kd.R_drewN | apply Kd.R_drew)); exact HO141.out) hb); have n3_ := mz (Kd.R_lower ho0 (below_size (by repeat (first | (with_reducible first | exact HB.out | apply below_alloc | apply pw_below_drewN | apply below_drew1) | exact HB.out)))); have n4_ := mz (below_step (by repeat (first | (with_reducible first | exact HB.out | apply below_alloc | apply pw_below_drewN | apply below_drew1) | exact HB.out)) hb); clear HO_8; clear HO_12; clear HO141; clear HB; have HO_8 := n0_; have HO_12 := n1_; have HO141 := n2_; have HO144 := n3_; have HB := n4_; clear n0_ n1_ n2_ n3_ n4_; (try clear hb); (try clear hb2); (try clear hk); (try clear hi); (try clear ho0); obtain ⟨Ao70, co70, eo70⟩ := Kd.R_slice HO141.out; subst eo70; obtain ⟨Ao71, co71, eo71⟩ := Kd.R_slice HO144.out; subst eo71) | ((with_reducible refine gate_callee (f := 17) rfl ?_); refine goesL_ (some 102) rfl rfl Try.func17 (by kernel_rfl) rfl #[.slice Ao70 t139.length co70, .slice Ao71 t142.length co71, .int .i64 a2] rfl (by (try simp only [List.map_toArray, List.map_cons, List.map_nil]); first | done | rfl | (simp only [List.length_drop, List.length_take]; rfl)) ?_; (with_reducible refine (impl_BreakAt.calls _ _ t139 _ _ t142 a2 t145 t146 _ ?side1 ?side2 ?side3 ?side4 A63.out).mono ?_); (case side1 => repeat (first | exact (Kd.R_reads' HO141.out).2.2 | (with_reducible refine Kd.C_alloc ?_ _) | (with_reducible refine Kd.C_drewN ?_ _) | (with_reducible refine Kd.C_drew ?_))); (case side2 => exact (Kd.R_reads' HO141.out).2.1); (case side3 => repeat (first | exact (Kd.R_reads' HO144.out).2.2 | (with_reducible refine Kd.C_alloc ?_ _) | (with_reducible refine Kd.C_drewN ?_ _) | (with_reducible refine Kd.C_drew ?_))); (case side4 => exact (Kd.R_reads' HO144.out).2.1); rintro e w72 ⟨v147, rfl, ho0, hb⟩; refine ⟨_, rfl, ?_⟩; have n0_ := mz (Kd.R_elder' (by (with_reducible repeat (first | apply Kd.R_alloc | apply Kd.R_drewN | apply Kd.R_drew)); exact HO_8.out) (Kd.R_base ho0) hb); have n1_ := mz (Kd.R_elder' (by (with_reducible repeat (first | apply Kd.R_alloc | apply Kd.R_drewN | apply Kd.R_drew)); exact HO_12.out) (Kd.R_base ho0) hb); have n2_ := mz (Kd.R_elder' (by (with_reducible repeat (first | apply Kd.R_alloc | apply Kd.R_drewN | apply Kd.R_drew)); exact HO141.out) (Kd.R_base ho0) hb); have n3_ := mz (Kd.R_below (by (with_reducible repeat (first | apply Kd.R_alloc | apply Kd.R_drewN | apply Kd.R_drew)); exact HO144.out) hb); have n4_ := mz (Kd.R_lower (Kd.R_new' (Kd.R_new' (Kd.R_new' ho0 (Kd.R_lt (by (with_reducible repeat (first | apply Kd.R_alloc | apply Kd.R_drewN | apply Kd.R_drew)); exact HO_8.out))) (Kd.R_lt (by (with_reducible repeat (first | apply Kd.R_alloc | apply Kd.R_drewN | apply Kd.R_drew)); exact HO_12.out))) (Kd.R_lt (by (with_reducible repeat (first | apply Kd.R_alloc | apply Kd.R_drewN | apply Kd.R_drew)); exact HO141.out))) (below_size (by repeat (first | (with_reducible first | exact HB.out | apply below_alloc | apply pw_below_drewN | apply below_drew1) | exact HB.out)))); have n5_ := mz (below_step (by repeat (first | (with_reducible first | exact HB.out | apply below_alloc | apply pw_below_drewN | apply below_drew1) | exact HB.out)) hb); clear HO_8; clear HO_12; clear HO141; clear HO144; clear HB; have HO_8 := n0_; have HO_12 := n1_; have HO141 := n2_; have HO144 := n3_; have HO148 := n4_; have HB := n5_; clear n0_ n1_ n2_ n3_ n4_ n5_; (try clear hb); (try clear hb2); (try clear hk); (try clear hi); (try clear ho0)))
                          (try simp only [Act.put, List.setIfInBounds_toArray, List.set_cons_zero, List.set_cons_succ])
                          go_cut [113] (fun v113 wc => ∃ (kq : Nat) (x113_63 : Bool), v113 = .bool x113_63 ∧ Aside0 (laws_FnExactBreakAt.j2 kq t137 t136 x113_63 = some r) ∧ Aside0 (kq ≤ kj38) ∧ Aside0 (Kd.R Kd.string 9 wc w.heap.size (fun _ => True) (.slice Ao65 t118.length co65) t137) ∧ Aside0 (Below w.heap.size w wc))
                          case first =>
                            have H := HC64.out
                            clear HC64
                            replace H := be0_ H
                            obtain ⟨t149, A730, H⟩ := H
                            replace H : (if t149 = true then (laws_FnExactBreakAt.j2 kj38 t137 t136 (t146 != t109)) else (laws_FnExactBreakAt.j2 kj38 t137 t136 true)) = some r := H
                            have A73 := mz A730
                            clear A730
                            by_cases c74 : t149 = true
                            · subst c74
                              have H1 : (laws_FnExactBreakAt.j2 kj38 t137 t136 (t146 != t109)) = some r := by rw [if_pos rfl] at H; exact H
                              clear H
                              have H := H1
                              clear H1
                              have H' := mz H
                              clear H
                              obtain ⟨Ao75, co75, eo75⟩ := Kd.R_slice HO148.out
                              subst eo75
                              obtain ⟨Ao76, co76, eo76⟩ := Kd.R_slice HO_8.out
                              subst eo76
                              go_wp2_with (first | ((with_reducible refine gate_callee (f := 8) rfl ?_); refine goesL_ (some 107) rfl rfl Try.func8 (by kernel_rfl) rfl #[.slice Ao75 t145.length co75, .slice Ao76 t108.length co76] rfl (by (try simp only [List.map_toArray, List.map_cons, List.map_nil]); first | done | rfl | (simp only [List.length_drop, List.length_take]; rfl)) ?_; (with_reducible refine (laws_eqStringS.calls kj38 _ _ t145 _ _ t108 true _ ?side1 ?side2 ?side3 ?side4 A73.out).mono ?_); (case side1 => repeat (first | exact (Kd.R_reads' HO148.out).2.2 | (with_reducible refine Kd.C_alloc ?_ _) | (with_reducible refine Kd.C_drewN ?_ _) | (with_reducible refine Kd.C_drew ?_))); (case side2 => exact (Kd.R_reads' HO148.out).2.1); (case side3 => repeat (first | exact (Kd.R_reads' HO_8.out).2.2 | (with_reducible refine Kd.C_alloc ?_ _) | (with_reducible refine Kd.C_drewN ?_ _) | (with_reducible refine Kd.C_drew ?_))); (case side4 => exact (Kd.R_reads' HO_8.out).2.1); rintro e w' ⟨rfl, ⟨nd, rfl⟩⟩; refine ⟨_, rfl, ?_⟩))
                              go_meet
                              case rel => exact ⟨_, ((t146 != t109)), (by first | rfl | (simp; done) | (simp [*]; done)), H', ⟨by have := HJ12.out; have := HJ38.out; first | omega | exact Nat.le_refl _⟩, ⟨by (with_reducible repeat (first | apply Kd.R_alloc | apply Kd.R_drewN | apply Kd.R_drew)); exact Kd.R_mono HO_12.out (fun _ hk => trivial)⟩, ⟨by repeat (first | (with_reducible first | exact HB.out | apply below_alloc | apply pw_below_drewN | apply below_drew1) | exact HB.out)⟩⟩
                            · replace c74 := Bool.eq_false_iff.mpr c74
                              subst c74
                              have H1 : (laws_FnExactBreakAt.j2 kj38 t137 t136 true) = some r := by rw [if_neg (show ¬ (false = true) by decide)] at H; exact H
                              clear H
                              have H := H1
                              clear H1
                              have H' := mz H
                              clear H
                              obtain ⟨Ao77, co77, eo77⟩ := Kd.R_slice HO148.out
                              subst eo77
                              obtain ⟨Ao78, co78, eo78⟩ := Kd.R_slice HO_8.out
                              subst eo78
                              go_wp2_with (first | ((with_reducible refine gate_callee (f := 8) rfl ?_); refine goesL_ (some 107) rfl rfl Try.func8 (by kernel_rfl) rfl #[.slice Ao77 t145.length co77, .slice Ao78 t108.length co78] rfl (by (try simp only [List.map_toArray, List.map_cons, List.map_nil]); first | done | rfl | (simp only [List.length_drop, List.length_take]; rfl)) ?_; (with_reducible refine (laws_eqStringS.calls kj38 _ _ t145 _ _ t108 false _ ?side1 ?side2 ?side3 ?side4 A73.out).mono ?_); (case side1 => repeat (first | exact (Kd.R_reads' HO148.out).2.2 | (with_reducible refine Kd.C_alloc ?_ _) | (with_reducible refine Kd.C_drewN ?_ _) | (with_reducible refine Kd.C_drew ?_))); (case side2 => exact (Kd.R_reads' HO148.out).2.1); (case side3 => repeat (first | exact (Kd.R_reads' HO_8.out).2.2 | (with_reducible refine Kd.C_alloc ?_ _) | (with_reducible refine Kd.C_drewN ?_ _) | (with_reducible refine Kd.C_drew ?_))); (case side4 => exact (Kd.R_reads' HO_8.out).2.1); rintro e w' ⟨rfl, ⟨nd, rfl⟩⟩; refine ⟨_, rfl, ?_⟩))
                              go_meet
                              case rel => exact ⟨_, (true), (by first | rfl | (simp; done) | (simp [*]; done)), H', ⟨by have := HJ12.out; have := HJ38.out; first | omega | exact Nat.le_refl _⟩, ⟨by (with_reducible repeat (first | apply Kd.R_alloc | apply Kd.R_drewN | apply Kd.R_drew)); exact Kd.R_mono HO_12.out (fun _ hk => trivial)⟩, ⟨by repeat (first | (with_reducible first | exact HB.out | apply below_alloc | apply pw_below_drewN | apply below_drew1) | exact HB.out)⟩⟩
                          case rest =>
                            clear HC64
                            try clear c1
                            try clear c2
                            try clear p2
                            try clear c3
                            try clear c4
                            try clear c4b0
                            try clear c4b1
                            try clear c5
                            try clear c6
                            try clear c6b0
                            try clear c7
                            try clear c8
                            try clear c9
                            try clear c10
                            try clear c11
                            try clear c13
                            try clear c15
                            try clear c16
                            try clear c17
                            try clear c18
                            try clear c19
                            try clear c25
                            try clear c30
                            try clear c33
                            try clear c36
                            try clear c46
                            try clear c46b0
                            try clear c48
                            try clear c53
                            try clear c56
                            try clear c56b0
                            try clear c60
                            try clear c60b0
                            try clear c60b1
                            try clear c74
                            try clear p2
                            obtain ⟨kq, x113_63, rfl, HA, HJ63, HO_12, HB⟩ := hcut
                            have hl12_63 := (Kd.R_reads' HO_12.out).1
                            rw [hl12_63] at HO_12
                            (try simp only [hl12_63])
                            cases kq with
                            | zero => exact absurd HA.out (by simp [laws_FnExactBreakAt.j2])
                            | succ kj63 =>
                              have H := HA.out
                              clear HA
                              simp only [laws_FnExactBreakAt.j2] at H
                              by_cases c79 : x113_63 = true
                              · subst c79
                                have H1 : (some false) = some r := by rw [if_pos rfl] at H; exact H
                                clear H
                                have H := H1
                                clear H1
                                obtain rfl := Option.some.inj H
                                go_wp2
                                go_ret
                                exact ⟨by first | rfl | (simp [errW_none, errW_some] <;> rfl) | (simp [*, errW_none, errW_some] <;> rfl), by repeat (first | (with_reducible first | exact HB.out | apply below_alloc | apply pw_below_drewN | apply below_drew1) | exact HB.out)⟩
                              · replace c79 := Bool.eq_false_iff.mpr c79
                                subst c79
                                have H1 : ((laws_heldStringS.f kj63 t137 1).bind fun t150 => (if t150 < 0 then (some false) else (if t150 = t136 then (some true) else (some false)))) = some r := by rw [if_neg (show ¬ (false = true) by decide)] at H; exact H
                                clear H
                                have H := H1
                                clear H1
                                replace H := be0_ H
                                obtain ⟨t150, A800, H⟩ := H
                                replace H : (if t150 < 0 then (some false) else (if t150 = t136 then (some true) else (some false))) = some r := H
                                have A80 := mz A800
                                clear A800
                                by_cases c81 : t150 < 0
                                · rw [if_pos c81] at H
                                  have c81b0 : decide (t150 < 0) = true := decide_eq_true c81
                                  clear c81
                                  obtain rfl := Option.some.inj H
                                  go_wp2_with (first | ((with_reducible refine gate_callee (f := 10) rfl ?_); refine goesL_ (some 116) rfl rfl Try.func10 (by kernel_rfl) rfl #[.slice Ao65 t137.length co65, .int .i64 1] rfl (by (try simp only [List.map_toArray, List.map_cons, List.map_nil]); first | done | rfl | (simp only [List.length_drop, List.length_take]; rfl)) ?_; (with_reducible refine (laws_heldStringS.calls kj63 _ _ t137 1 t150 _ ?side1 ?side2 A80.out).mono ?_); (case side1 => repeat (first | exact (Kd.R_reads' HO_12.out).2.2 | (with_reducible refine Kd.C_alloc ?_ _) | (with_reducible refine Kd.C_drewN ?_ _) | (with_reducible refine Kd.C_drew ?_))); (case side2 => exact (Kd.R_reads' HO_12.out).2.1); rintro e w82 ⟨rfl, hb⟩; refine ⟨_, rfl, ?_⟩; have n0_ := mz (Kd.R_below (by (with_reducible repeat (first | apply Kd.R_alloc | apply Kd.R_drewN | apply Kd.R_drew)); exact HO_12.out) hb); have n1_ := mz (below_step (by repeat (first | (with_reducible first | exact HB.out | apply below_alloc | apply pw_below_drewN | apply below_drew1) | exact HB.out)) hb); clear HO_12; clear HB; have HO_12 := n0_; have HB := n1_; clear n0_ n1_; (try clear hb); (try clear hb2); (try clear hk); (try clear hi)))
                                  go_ret
                                  exact ⟨by first | rfl | (simp [errW_none, errW_some] <;> rfl) | (simp [*, errW_none, errW_some] <;> rfl), by repeat (first | (with_reducible first | exact HB.out | apply below_alloc | apply pw_below_drewN | apply below_drew1) | exact HB.out)⟩
                                · rw [if_neg c81] at H
                                  have c81b0 : decide (t150 < 0) = false := decide_eq_false c81
                                  clear c81
                                  by_cases c83 : t150 = t136
                                  · rw [if_pos c83] at H
                                    have c83b0 : (t150 == t136) = true := beq_iff_eq.mpr c83
                                    have c83b1 : (t150 != t136) = false := bne_eq_false_iff_eq.mpr c83
                                    clear c83
                                    obtain rfl := Option.some.inj H
                                    go_wp2_with (first | ((with_reducible refine gate_callee (f := 10) rfl ?_); refine goesL_ (some 116) rfl rfl Try.func10 (by kernel_rfl) rfl #[.slice Ao65 t137.length co65, .int .i64 1] rfl (by (try simp only [List.map_toArray, List.map_cons, List.map_nil]); first | done | rfl | (simp only [List.length_drop, List.length_take]; rfl)) ?_; (with_reducible refine (laws_heldStringS.calls kj63 _ _ t137 1 t150 _ ?side1 ?side2 A80.out).mono ?_); (case side1 => repeat (first | exact (Kd.R_reads' HO_12.out).2.2 | (with_reducible refine Kd.C_alloc ?_ _) | (with_reducible refine Kd.C_drewN ?_ _) | (with_reducible refine Kd.C_drew ?_))); (case side2 => exact (Kd.R_reads' HO_12.out).2.1); rintro e w84 ⟨rfl, hb⟩; refine ⟨_, rfl, ?_⟩; have n0_ := mz (Kd.R_below (by (with_reducible repeat (first | apply Kd.R_alloc | apply Kd.R_drewN | apply Kd.R_drew)); exact HO_12.out) hb); have n1_ := mz (below_step (by repeat (first | (with_reducible first | exact HB.out | apply below_alloc | apply pw_below_drewN | apply below_drew1) | exact HB.out)) hb); clear HO_12; clear HB; have HO_12 := n0_; have HB := n1_; clear n0_ n1_; (try clear hb); (try clear hb2); (try clear hk); (try clear hi)))
                                    go_ret
                                    exact ⟨by first | rfl | (simp [errW_none, errW_some] <;> rfl) | (simp [*, errW_none, errW_some] <;> rfl), by repeat (first | (with_reducible first | exact HB.out | apply below_alloc | apply pw_below_drewN | apply below_drew1) | exact HB.out)⟩
                                  · rw [if_neg c83] at H
                                    have c83b0 : (t150 == t136) = false := beq_eq_false_iff_ne.mpr c83
                                    have c83b1 : (t150 != t136) = true := bne_iff_ne.mpr c83
                                    obtain rfl := Option.some.inj H
                                    go_wp2_with (first | ((with_reducible refine gate_callee (f := 10) rfl ?_); refine goesL_ (some 116) rfl rfl Try.func10 (by kernel_rfl) rfl #[.slice Ao65 t137.length co65, .int .i64 1] rfl (by (try simp only [List.map_toArray, List.map_cons, List.map_nil]); first | done | rfl | (simp only [List.length_drop, List.length_take]; rfl)) ?_; (with_reducible refine (laws_heldStringS.calls kj63 _ _ t137 1 t150 _ ?side1 ?side2 A80.out).mono ?_); (case side1 => repeat (first | exact (Kd.R_reads' HO_12.out).2.2 | (with_reducible refine Kd.C_alloc ?_ _) | (with_reducible refine Kd.C_drewN ?_ _) | (with_reducible refine Kd.C_drew ?_))); (case side2 => exact (Kd.R_reads' HO_12.out).2.1); rintro e w85 ⟨rfl, hb⟩; refine ⟨_, rfl, ?_⟩; have n0_ := mz (Kd.R_below (by (with_reducible repeat (first | apply Kd.R_alloc | apply Kd.R_drewN | apply Kd.R_drew)); exact HO_12.out) hb); have n1_ := mz (below_step (by repeat (first | (with_reducible first | exact HB.out | apply below_alloc | apply pw_below_drewN | apply below_drew1) | exact HB.out)) hb); clear HO_12; clear HB; have HO_12 := n0_; have HB := n1_; clear n0_ n1_; (try clear hb); (try clear hb2); (try clear hk); (try clear hi)))
                                    go_ret
                                    exact ⟨by first | rfl | (simp [errW_none, errW_some] <;> rfl) | (simp [*, errW_none, errW_some] <;> rfl), by repeat (first | (with_reducible first | exact HB.out | apply below_alloc | apply pw_below_drewN | apply below_drew1) | exact HB.out)⟩
                        · rw [if_neg c60] at H
                          have c60b0 : (t138 == t136) = false := beq_eq_false_iff_ne.mpr c60
                          have c60b1 : (t138 != t136) = true := bne_iff_ne.mpr c60
                          obtain rfl := Option.some.inj H
                          obtain ⟨Ao86, co86, eo86⟩ := Kd.R_slice HO_12.out
                          subst eo86
                          go_wp2_with (first | ((with_reducible refine gate_callee (f := 9) rfl ?_); refine goesL_ (some 87) rfl rfl Try.func9 (by kernel_rfl) rfl #[.slice Ao86 t118.length co86, .int .i64 1] rfl (by (try simp only [List.map_toArray, List.map_cons, List.map_nil]); first | done | rfl | (simp only [List.length_drop, List.length_take]; rfl)) ?_; (with_reducible refine (laws_markStringS.calls kj38 (fun k_ => some k_ = (.slice Ao86 t118.length co86 : Value).ownBlock) (.slice Ao86 t118.length co86) t118 1 t136 t137 w _ ?side1 ?side2 A54.out).mono ?_); (case side1 => repeat (first | (with_reducible first | exact HB.out | apply below_alloc | apply pw_below_drewN | apply below_drew1) | exact HB.out)); (case side2 => exact Kd.R_tight rfl HO_12.out); rintro e w87 ⟨rfl, hy0, hb, hkp⟩; refine ⟨_, rfl, ?_⟩; have n0_ := mz (Kd.R_mono (ok' := fun k_ => some k_ ≠ (.slice Ao86 t118.length co86 : Value).ownBlock) (Kd.R_keptB (HO_8.out) hkp (fun k_ hk_ hs_ => (hk_) hs_)) (fun k_ hk_ => hk_.1)); have n1_ := mz (Kd.R_reok rfl hy0 (fun k_ e_ => HO_12.out.1 k_ e_)); have n2_ := mz (hb); clear HO_8; clear HO_12; clear HB; have HO_8 := n0_; have HO_12 := n1_; have HB := n2_; clear n0_ n1_ n2_; (try clear hb); (try clear hkp); (try clear hy0)) | ((with_reducible refine gate_callee (f := 10) rfl ?_); refine goesL_ (some 90) rfl rfl Try.func10 (by kernel_rfl) rfl #[.slice Ao86 t137.length co86, .int .i64 1] rfl (by (try simp only [List.map_toArray, List.map_cons, List.map_nil]); first | done | (rw [show t137.length = t118.length from (Kd.R_reads' HO_12.out).1.symm] <;> rfl) | rfl | (simp only [List.length_drop, List.length_take]; rfl)) ?_; (with_reducible refine (laws_heldStringS.calls kj38 _ _ t137 1 t138 _ ?side1 ?side2 A55.out).mono ?_); (case side1 => repeat (first | exact (Kd.R_reads' HO_12.out).2.2 | (with_reducible refine Kd.C_alloc ?_ _) | (with_reducible refine Kd.C_drewN ?_ _) | (with_reducible refine Kd.C_drew ?_))); (case side2 => rw [show t137.length = t118.length from (Kd.R_reads' HO_12.out).1.symm]; exact (Kd.R_reads' HO_12.out).2.1); rintro e w88 ⟨rfl, hb⟩; refine ⟨_, rfl, ?_⟩; have n0_ := mz (Kd.R_below (by (with_reducible repeat (first | apply Kd.R_alloc | apply Kd.R_drewN | apply Kd.R_drew)); exact HO_8.out) hb); have n1_ := mz (Kd.R_below (by (with_reducible repeat (first | apply Kd.R_alloc | apply Kd.R_drewN | apply Kd.R_drew)); exact HO_12.out) hb); have n2_ := mz (below_step (by repeat (first | (with_reducible first | exact HB.out | apply below_alloc | apply pw_below_drewN | apply below_drew1) | exact HB.out)) hb); clear HO_8; clear HO_12; clear HB; have HO_8 := n0_; have HO_12 := n1_; have HB := n2_; clear n0_ n1_ n2_; (try clear hb); (try clear hb2); (try clear hk); (try clear hi)))
                          go_ret
                          exact ⟨by first | rfl | (simp [errW_none, errW_some] <;> rfl) | (simp [*, errW_none, errW_some] <;> rfl), by repeat (first | (with_reducible first | exact HB.out | apply below_alloc | apply pw_below_drewN | apply below_drew1) | exact HB.out)⟩
              · replace c36 := Bool.eq_false_iff.mpr c36
                subst c36
                have H1 : (some false) = some r := by rw [if_neg (show ¬ (false = true) by decide)] at H; exact H
                clear H
                have H := H1
                clear H1
                obtain rfl := Option.some.inj H
                go_wp2_with (first | ((with_reducible refine gate_callee (f := 13) rfl ?_); refine goesL_ (some 58) rfl rfl Try.func13 (by kernel_rfl) rfl #[.slice A0 l0.length c0] rfl (by (try simp only [List.map_toArray, List.map_cons, List.map_nil]); first | done | rfl | (simp only [List.length_drop, List.length_take]; rfl)) ?_; (with_reducible refine (laws_toStringS.calls kj12 _ _ l0 t123 _ ?side1 ?side2 A31.out).mono ?_); (case side1 => repeat (first | exact (Kd.C_below HR0.out HB.out) | (with_reducible refine Kd.C_alloc ?_ _) | (with_reducible refine Kd.C_drewN ?_ _) | (with_reducible refine Kd.C_drew ?_))); (case side2 => exact HC0.out); rintro e w89 ⟨v124, rfl, ho0, hb⟩; refine ⟨_, rfl, ?_⟩; have n0_ := mz (Kd.R_elder' (by (with_reducible repeat (first | apply Kd.R_alloc | apply Kd.R_drewN | apply Kd.R_drew)); exact HO_8.out) (Kd.R_base ho0) hb); have n1_ := mz (Kd.R_elder' (by (with_reducible repeat (first | apply Kd.R_alloc | apply Kd.R_drewN | apply Kd.R_drew)); exact HO_10.out) (Kd.R_base ho0) hb); have n2_ := mz (Kd.R_below (by (with_reducible repeat (first | apply Kd.R_alloc | apply Kd.R_drewN | apply Kd.R_drew)); exact HO_11.out) hb); have n3_ := mz (Kd.R_elder' (by (with_reducible repeat (first | apply Kd.R_alloc | apply Kd.R_drewN | apply Kd.R_drew)); exact HO_12.out) (Kd.R_base ho0) hb); have n4_ := mz (Kd.R_lower (Kd.R_new' (Kd.R_new' (Kd.R_new' ho0 (Kd.R_lt (by (with_reducible repeat (first | apply Kd.R_alloc | apply Kd.R_drewN | apply Kd.R_drew)); exact HO_8.out))) (Kd.R_lt (by (with_reducible repeat (first | apply Kd.R_alloc | apply Kd.R_drewN | apply Kd.R_drew)); exact HO_10.out))) (Kd.R_lt (by (with_reducible repeat (first | apply Kd.R_alloc | apply Kd.R_drewN | apply Kd.R_drew)); exact HO_12.out))) (below_size (by repeat (first | (with_reducible first | exact HB.out | apply below_alloc | apply pw_below_drewN | apply below_drew1) | exact HB.out)))); have n5_ := mz (below_step (by repeat (first | (with_reducible first | exact HB.out | apply below_alloc | apply pw_below_drewN | apply below_drew1) | exact HB.out)) hb); clear HO_8; clear HO_10; clear HO_11; clear HO_12; clear HB; have HO_8 := n0_; have HO_10 := n1_; have HO_11 := n2_; have HO_12 := n3_; have HO125 := n4_; have HB := n5_; clear n0_ n1_ n2_ n3_ n4_ n5_; (try clear hb); (try clear hb2); (try clear hk); (try clear hi); (try clear ho0); obtain ⟨Ao90, co90, eo90⟩ := Kd.R_slice HO125.out; subst eo90) | ((with_reducible refine gate_callee (f := 8) rfl ?_); refine goesL_ (some 59) rfl rfl Try.func8 (by kernel_rfl) rfl #[.slice Ao21 t112.length co21, .slice Ao90 t123.length co90] rfl (by (try simp only [List.map_toArray, List.map_cons, List.map_nil]); first | done | rfl | (simp only [List.length_drop, List.length_take]; rfl)) ?_; (with_reducible refine (laws_eqStringS.calls kj12 _ _ t112 _ _ t123 true _ ?side1 ?side2 ?side3 ?side4 A32.out).mono ?_); (case side1 => repeat (first | exact (Kd.R_reads' HO_10.out).2.2 | (with_reducible refine Kd.C_alloc ?_ _) | (with_reducible refine Kd.C_drewN ?_ _) | (with_reducible refine Kd.C_drew ?_))); (case side2 => exact (Kd.R_reads' HO_10.out).2.1); (case side3 => repeat (first | exact (Kd.R_reads' HO125.out).2.2 | (with_reducible refine Kd.C_alloc ?_ _) | (with_reducible refine Kd.C_drewN ?_ _) | (with_reducible refine Kd.C_drew ?_))); (case side4 => exact (Kd.R_reads' HO125.out).2.1); rintro e w' ⟨rfl, ⟨nd, rfl⟩⟩; refine ⟨_, rfl, ?_⟩) | ((with_reducible refine gate_callee (f := 16) rfl ?_); refine goesL_ (some 63) rfl rfl Try.func16 (by kernel_rfl) rfl #[.slice A1 l1.length c1] rfl (by (try simp only [List.map_toArray, List.map_cons, List.map_nil]); first | done | rfl | (simp only [List.length_drop, List.length_take]; rfl)) ?_; (with_reducible refine (laws_toIntS.calls kj12 _ _ l1 t127 _ ?side1 ?side2 A34.out).mono ?_); (case side1 => repeat (first | exact (Kd.C_below HR1.out (by repeat (first | (with_reducible first | exact HB.out | apply below_alloc | apply pw_below_drewN | apply below_drew1) | exact HB.out))) | (with_reducible refine Kd.C_alloc ?_ _) | (with_reducible refine Kd.C_drewN ?_ _) | (with_reducible refine Kd.C_drew ?_))); (case side2 => exact HC1.out); rintro e w91 ⟨v128, rfl, ho0, hb⟩; refine ⟨_, rfl, ?_⟩; have n0_ := mz (Kd.R_below (by (with_reducible repeat (first | apply Kd.R_alloc | apply Kd.R_drewN | apply Kd.R_drew)); exact HO_8.out) hb); have n1_ := mz (Kd.R_below (by (with_reducible repeat (first | apply Kd.R_alloc | apply Kd.R_drewN | apply Kd.R_drew)); exact HO_10.out) hb); have n2_ := mz (Kd.R_elder' (by (with_reducible repeat (first | apply Kd.R_alloc | apply Kd.R_drewN | apply Kd.R_drew)); exact HO_11.out) (Kd.R_base ho0) hb); have n3_ := mz (Kd.R_below (by (with_reducible repeat (first | apply Kd.R_alloc | apply Kd.R_drewN | apply Kd.R_drew)); exact HO_12.out) hb); have n4_ := mz (Kd.R_below (by (with_reducible repeat (first | apply Kd.R_alloc | apply Kd.R_drewN | apply Kd.R_drew)); exact HO125.out) hb); have n5_ := mz (Kd.R_lower (Kd.R_new' ho0 (Kd.R_lt (by (with_reducible repeat (first | apply Kd.R_alloc | apply Kd.R_drewN | apply Kd.R_drew)); exact HO_11.out))) (below_size (by repeat (first | (with_reducible first | exact HB.out | apply below_alloc | apply pw_below_drewN | apply below_drew1) | exact HB.out)))); have n6_ := mz (below_step (by repeat (first | (with_reducible first | exact HB.out | apply below_alloc | apply pw_below_drewN | apply below_drew1) | exact HB.out)) hb); clear HO_8; clear HO_10; clear HO_11; clear HO_12; clear HO125; clear HB; have HO_8 := n0_; have HO_10 := n1_; have HO_11 := n2_; have HO_12 := n3_; have HO125 := n4_; have HO129 := n5_; have HB := n6_; clear n0_ n1_ n2_ n3_ n4_ n5_ n6_; (try clear hb); (try clear hb2); (try clear hk); (try clear hi); (try clear ho0); obtain ⟨Ao92, co92, eo92⟩ := Kd.R_slice HO129.out; subst eo92) | ((with_reducible refine gate_callee (f := 18) rfl ?_); refine goesL_ (some 64) rfl rfl Try.func18 (by kernel_rfl) rfl #[.slice Ao22 t115.length co22, .slice Ao92 t127.length co92] rfl (by (try simp only [List.map_toArray, List.map_cons, List.map_nil]); first | done | rfl | (simp only [List.length_drop, List.length_take]; rfl)) ?_; (with_reducible refine (laws_eqIntS.calls kj12 _ _ t115 _ _ t127 false _ ?side1 ?side2 ?side3 ?side4 A35.out).mono ?_); (case side1 => repeat (first | exact (Kd.R_reads' HO_11.out).2.2 | (with_reducible refine Kd.C_alloc ?_ _) | (with_reducible refine Kd.C_drewN ?_ _) | (with_reducible refine Kd.C_drew ?_))); (case side2 => exact (Kd.R_reads' HO_11.out).2.1); (case side3 => repeat (first | exact (Kd.R_reads' HO129.out).2.2 | (with_reducible refine Kd.C_alloc ?_ _) | (with_reducible refine Kd.C_drewN ?_ _) | (with_reducible refine Kd.C_drew ?_))); (case side4 => exact (Kd.R_reads' HO129.out).2.1); rintro e w' ⟨rfl, ⟨nd, rfl⟩⟩; refine ⟨_, rfl, ?_⟩))
                go_ret
                exact ⟨by first | rfl | (simp [errW_none, errW_some] <;> rfl) | (simp [*, errW_none, errW_some] <;> rfl), by repeat (first | (with_reducible first | exact HB.out | apply below_alloc | apply pw_below_drewN | apply below_drew1) | exact HB.out)⟩
            · replace c33 := Bool.eq_false_iff.mpr c33
              subst c33
              have H1 : (some false) = some r := by rw [if_neg (show ¬ (false = true) by decide)] at H; exact H
              clear H
              have H := H1
              clear H1
              obtain rfl := Option.some.inj H
              go_wp2_with (first | ((with_reducible refine gate_callee (f := 13) rfl ?_); refine goesL_ (some 58) rfl rfl Try.func13 (by kernel_rfl) rfl #[.slice A0 l0.length c0] rfl (by (try simp only [List.map_toArray, List.map_cons, List.map_nil]); first | done | rfl | (simp only [List.length_drop, List.length_take]; rfl)) ?_; (with_reducible refine (laws_toStringS.calls kj12 _ _ l0 t123 _ ?side1 ?side2 A31.out).mono ?_); (case side1 => repeat (first | exact (Kd.C_below HR0.out HB.out) | (with_reducible refine Kd.C_alloc ?_ _) | (with_reducible refine Kd.C_drewN ?_ _) | (with_reducible refine Kd.C_drew ?_))); (case side2 => exact HC0.out); rintro e w93 ⟨v124, rfl, ho0, hb⟩; refine ⟨_, rfl, ?_⟩; have n0_ := mz (Kd.R_elder' (by (with_reducible repeat (first | apply Kd.R_alloc | apply Kd.R_drewN | apply Kd.R_drew)); exact HO_8.out) (Kd.R_base ho0) hb); have n1_ := mz (Kd.R_elder' (by (with_reducible repeat (first | apply Kd.R_alloc | apply Kd.R_drewN | apply Kd.R_drew)); exact HO_10.out) (Kd.R_base ho0) hb); have n2_ := mz (Kd.R_below (by (with_reducible repeat (first | apply Kd.R_alloc | apply Kd.R_drewN | apply Kd.R_drew)); exact HO_11.out) hb); have n3_ := mz (Kd.R_elder' (by (with_reducible repeat (first | apply Kd.R_alloc | apply Kd.R_drewN | apply Kd.R_drew)); exact HO_12.out) (Kd.R_base ho0) hb); have n4_ := mz (Kd.R_lower (Kd.R_new' (Kd.R_new' (Kd.R_new' ho0 (Kd.R_lt (by (with_reducible repeat (first | apply Kd.R_alloc | apply Kd.R_drewN | apply Kd.R_drew)); exact HO_8.out))) (Kd.R_lt (by (with_reducible repeat (first | apply Kd.R_alloc | apply Kd.R_drewN | apply Kd.R_drew)); exact HO_10.out))) (Kd.R_lt (by (with_reducible repeat (first | apply Kd.R_alloc | apply Kd.R_drewN | apply Kd.R_drew)); exact HO_12.out))) (below_size (by repeat (first | (with_reducible first | exact HB.out | apply below_alloc | apply pw_below_drewN | apply below_drew1) | exact HB.out)))); have n5_ := mz (below_step (by repeat (first | (with_reducible first | exact HB.out | apply below_alloc | apply pw_below_drewN | apply below_drew1) | exact HB.out)) hb); clear HO_8; clear HO_10; clear HO_11; clear HO_12; clear HB; have HO_8 := n0_; have HO_10 := n1_; have HO_11 := n2_; have HO_12 := n3_; have HO125 := n4_; have HB := n5_; clear n0_ n1_ n2_ n3_ n4_ n5_; (try clear hb); (try clear hb2); (try clear hk); (try clear hi); (try clear ho0); obtain ⟨Ao94, co94, eo94⟩ := Kd.R_slice HO125.out; subst eo94) | ((with_reducible refine gate_callee (f := 8) rfl ?_); refine goesL_ (some 59) rfl rfl Try.func8 (by kernel_rfl) rfl #[.slice Ao21 t112.length co21, .slice Ao94 t123.length co94] rfl (by (try simp only [List.map_toArray, List.map_cons, List.map_nil]); first | done | rfl | (simp only [List.length_drop, List.length_take]; rfl)) ?_; (with_reducible refine (laws_eqStringS.calls kj12 _ _ t112 _ _ t123 false _ ?side1 ?side2 ?side3 ?side4 A32.out).mono ?_); (case side1 => repeat (first | exact (Kd.R_reads' HO_10.out).2.2 | (with_reducible refine Kd.C_alloc ?_ _) | (with_reducible refine Kd.C_drewN ?_ _) | (with_reducible refine Kd.C_drew ?_))); (case side2 => exact (Kd.R_reads' HO_10.out).2.1); (case side3 => repeat (first | exact (Kd.R_reads' HO125.out).2.2 | (with_reducible refine Kd.C_alloc ?_ _) | (with_reducible refine Kd.C_drewN ?_ _) | (with_reducible refine Kd.C_drew ?_))); (case side4 => exact (Kd.R_reads' HO125.out).2.1); rintro e w' ⟨rfl, ⟨nd, rfl⟩⟩; refine ⟨_, rfl, ?_⟩))
              go_ret
              exact ⟨by first | rfl | (simp [errW_none, errW_some] <;> rfl) | (simp [*, errW_none, errW_some] <;> rfl), by repeat (first | (with_reducible first | exact HB.out | apply below_alloc | apply pw_below_drewN | apply below_drew1) | exact HB.out)⟩
end
def Opens {α : Type} (P : Program) (t : TypeId) (d : Kd α) (B : α → Prop) : Prop :=
  ∀ (H : Type) (enc : TypeId × Value → H) (W : World) (fuel : Nat) (cs : List Value) (x : DataW H × List MemPlace),
    DataW.trod enc P W 0 (fun _ => true) true fuel t cs = some x → ∃ y : α, d.K W y cs ∧ B y

theorem opens_int {P : Program} {t : TypeId} {k : IntKind} (ht : P.underlying t = some (.int k)) : Opens P t (Kd.int k) (fun n => (Lit.int k n).wf = true) := by
  intro H enc W fuel cs x h
  obtain ⟨n, rfl, _, hw⟩ := DataW.trod_int ht h
  exact ⟨n, rfl, hw⟩
theorem opens_string {P : Program} {t : TypeId} (ht : P.underlying t = some .string) : Opens P t Kd.string (fun s => s.size ≤ maxLen) := by
  intro H enc W fuel cs x h
  obtain ⟨s, rfl, _, hs⟩ := DataW.trod_string ht h
  exact ⟨s, rfl, hs⟩

theorem list_of {α : Type} (Q : Nat → α → Prop) (n : Nat) (h : ∀ i, i < n → ∃ y, Q i y) : ∃ ys : List α, ys.length = n ∧ ∀ i y, ys[i]? = some y → Q i y := by
  induction n with
  | zero => exact ⟨[], rfl, fun i y hy => by simp at hy⟩
  | succ n ih =>
    obtain ⟨ys, hl, hq⟩ := ih (fun i hi => h i (by omega))
    obtain ⟨y, hy⟩ := h n (by omega)
    refine ⟨ys ++ [y], by simp [hl], fun i z hz => ?_⟩
    rcases Nat.lt_or_ge i ys.length with hi | hi
    · rw [List.getElem?_append_left hi] at hz
      exact hq i z hz
    · have hi' : i = n := by
        have := (List.getElem?_eq_some_iff.1 hz).1
        simp at this
        omega
      subst hi'
      rw [List.getElem?_append_right hi, hl, Nat.sub_self] at hz
      have : y = z := by simpa using hz
      subst this
      exact hy

theorem opens_slice {α : Type} {P : Program} {t e : TypeId} {d : Kd α} {B : α → Prop} (ht : P.underlying t = some (.slice e)) (hc : P.cellsOf e = d.sz) (hd : Opens P e d B) :
    Opens P t (Kd.slice e d) (fun l => l.length ≤ maxLen ∧ ∀ x ∈ l, B x) := by
  intro H enc W fuel cs x h
  rcases DataW.trod_slice ht h with ⟨rfl, _⟩ | ⟨a, len, cap, elems, rest, n, _, rfl, _, _, hl, hm, hlen, hel, _, _⟩
  · exact ⟨[], ⟨none, 0, rfl, Nat.le_refl _, rfl, by simp, fun h0 => absurd h0 (by simp)⟩, by simp, by simp⟩
  · have each : ∀ i, i < len → ∃ y : α, (∃ c, W.cells? 0 (a.add (i * P.cellsOf e)) (P.cellsOf e) = some c ∧ d.K W y c) ∧ B y := by
      intro i hi
      have h1 := hel i hi
      rw [List.getElem?_eq_getElem (by omega), Option.bind_eq_some_iff] at h1
      obtain ⟨c, h2, h3⟩ := h1
      obtain ⟨y, h4, h5⟩ := hd H enc W n c _ h3
      exact ⟨y, ⟨c, h2, h4⟩, h5⟩
    obtain ⟨ys, hys, hq⟩ := list_of _ len each
    refine ⟨ys, ⟨some a, cap, by rw [hys], by rw [hys]; exact hl, rfl, ?_, fun _ => ⟨a, rfl, fun j p hj => ?_⟩⟩, by rw [hys]; exact Nat.le_trans hl hm, fun z hz => ?_⟩
    · rw [hys]
      have := Nat.le_trans hl hm
      simp only [maxLen] at this
      exact this
    · obtain ⟨⟨c, h2, h3⟩, _⟩ := hq j p hj
      refine ⟨c, d.K_len h3, h3, fun i u hu => ?_⟩
      have hi : i < P.cellsOf e := by rw [hc, ← d.K_len h3]; exact (List.getElem?_eq_some_iff.1 hu).1
      have := (World.cells?_some h2).2.2 i hi
      rw [Addr.add_add, hc] at this
      rw [this, hu]
    · obtain ⟨j, hj, rfl⟩ := List.getElem_of_mem hz
      exact (hq j _ (List.getElem?_eq_getElem hj)).2
section
attribute [local go_sem] max2_int min2_int max_two min_two max_three min_three max_four min_four

end
section
attribute [local go_sem] max2_int min2_int max_two min_two max_three min_three max_four min_four
def PureFnExactBreakAt : Prop := ∀ (l0 : List ByteArray), ∀ (l1 : List Int), ∀ (a2 : Int), (l0.length ≤ maxLen ∧ ∀ y ∈ l0, y.size ≤ maxLen) → (l1.length ≤ maxLen ∧ ∀ y ∈ l1, (Lit.int .i64 y).wf = true) → (Lit.int .i64 a2).wf = true → ∃ k, laws_FnExactBreakAt.f k l0 l1 a2 = some true
end
theorem eqStringS_loop (a b : List ByteArray) (hl : a.length = b.length) (hm : a.length ≤ 9223372036854775807) (d : Nat) : ∀ i : Nat, i + d = a.length →
    Ev (fun k => laws_eqStringS.l0 k a b (i : Int)) (decide (a.drop i = b.drop i)) := by
  induction d with
  | zero =>
    intro i h
    refine Ev.succ ?_
    simp only [laws_eqStringS.l0]
    simp only [if_neg (show ¬ ((i : Int) < (a.length : Int)) by omega)]
    refine ev_eq (Ev.now true) ?_
    rw [List.drop_eq_nil_of_le (by omega), List.drop_eq_nil_of_le (by omega)]; rfl
  | succ d ih =>
    intro i h
    refine Ev.succ ?_
    simp only [laws_eqStringS.l0]
    simp only [if_pos (show ((i : Int) < (a.length : Int)) by omega), if_pos (show (0 : Int) ≤ i by omega), if_pos (show ((i : Int) < (b.length : Int)) by omega), rdOf_get _ a i (by omega), rdOf_get _ b i (by omega)]
    have e : a.drop i = a[i] :: a.drop (i + 1) := List.drop_eq_getElem_cons (by omega)
    have e' : b.drop i = b[i] :: b.drop (i + 1) := List.drop_eq_getElem_cons (by omega)
    by_cases h1 : a[i].toList = b[i].toList
    · simp only [if_pos h1]
      rw [w64 (by omega) (by omega)]
      refine ev_eq (ih (i + 1) (by omega)) ?_
      rw [e, e', ba_ext h1]
      simp only [List.cons.injEq, true_and]
    · simp only [if_neg h1]
      refine ev_eq (Ev.now false) ?_
      rw [e, e']
      exact (decide_eq_false (fun h => h1 (by rw [(List.cons.inj h).1]))).symm
theorem eqStringS_ev (a b : List ByteArray) (hm : a.length ≤ 9223372036854775807) : Ev (fun k => laws_eqStringS.f k a b) (decide (a = b)) := by
  unfold laws_eqStringS.f
  by_cases hl : a.length = b.length
  · simp only [if_pos (show (a.length : Int) = (b.length : Int) by omega)]
    exact eqStringS_loop a b hl hm a.length 0 (by omega)
  · simp only [if_neg (show ¬ (a.length : Int) = (b.length : Int) by omega)]
    refine ev_eq (Ev.now false) ?_
    simp only [Bool.false_eq, decide_eq_false_iff_not]
    exact fun e => hl (by rw [e])

theorem toStringS_loop (a : List ByteArray) (hm : a.length ≤ 9223372036854775807) (d : Nat) : ∀ (i : Nat) (b : List ByteArray), i + d = a.length → b.length = a.length → b.take i = a.take i →
    Ev (fun k => laws_toStringS.l0 k a b (i : Int)) a := by
  induction d with
  | zero =>
    intro i b h hb ht
    refine Ev.succ ?_
    simp only [laws_toStringS.l0]
    simp only [if_neg (show ¬ ((i : Int) < (a.length : Int)) by omega)]
    refine ev_eq (Ev.now b) ?_
    rwa [List.take_of_length_le (by omega), List.take_of_length_le (by omega)] at ht
  | succ d ih =>
    intro i b h hb ht
    refine Ev.succ ?_
    simp only [laws_toStringS.l0]
    simp only [if_pos (show ((i : Int) < (a.length : Int)) by omega), if_pos (show (0 : Int) ≤ i by omega), if_pos (show ((i : Int) < (b.length : Int)) by omega), rdOf_get _ a i (by omega), Int.toNat_natCast]
    rw [w64 (by omega) (by omega)]
    refine ih (i + 1) _ (by omega) (by simpa using hb) ?_
    rw [List.take_succ_eq_append_getElem (by simp; omega), List.take_succ_eq_append_getElem (by omega), List.take_set_of_le (by omega), ht]
    simp
theorem toStringS_ev (a : List ByteArray) (hm : a.length ≤ 1048576) : Ev (fun k => laws_toStringS.f k a) a := by
  unfold laws_toStringS.f
  simp only [if_pos (show (0 : Int) ≤ (a.length : Int) by omega), Int.toNat_natCast, if_pos (show a.length ≤ 17592186044416 by omega)]
  exact toStringS_loop a (by omega) a.length 0 _ (by omega) (by simp) (by simp)

theorem szStringS_loop (a : List ByteArray) (hm : a.length ≤ 9223372036854775807) (hs : ∀ s ∈ a, s.size ≤ maxLen) (d : Nat) : ∀ (i : Nat) (left : Int), i + d = a.length → 0 ≤ left → left ≤ 1048576 →
    ∃ r, Ev (fun k => laws_szStringS.l0 k a left (i : Int)) r ∧ r ≤ left ∧ (0 ≤ r → ∀ s ∈ a.drop i, (s.size : Int) ≤ left) := by
  induction d with
  | zero =>
    intro i left h h0 h1
    refine ⟨left, Ev.succ ?_, Int.le_refl _, fun _ s hs => ?_⟩
    · simp only [laws_szStringS.l0]
      simp only [if_neg (show ¬ ((i : Int) < (a.length : Int)) by omega)]
      exact Ev.now _
    · rw [List.drop_eq_nil_of_le (by omega)] at hs; simp at hs
  | succ d ih =>
    intro i left h h0 h1
    have hz := hs a[i] (List.getElem_mem (by omega))
    simp only [maxLen] at hz
    have e : a.drop i = a[i] :: a.drop (i + 1) := List.drop_eq_getElem_cons (by omega)
    by_cases h2 : left - (a[i].size : Int) < 0
    · refine ⟨-1, Ev.succ ?_, by omega, fun h => by omega⟩
      simp only [laws_szStringS.l0]
      simp only [if_pos (show ((i : Int) < (a.length : Int)) by omega), if_pos (show (0 : Int) ≤ i by omega), rdOf_get _ a i (by omega), w64 (show -9223372036854775808 ≤ left - (a[i].size : Int) by omega) (by omega), if_pos h2]
      exact Ev.now _
    · obtain ⟨r, h3, h4, h5⟩ := ih (i + 1) (left - a[i].size) (by omega) (by omega) (by omega)
      refine ⟨r, Ev.succ ?_, by omega, fun hr s hs' => ?_⟩
      · simp only [laws_szStringS.l0]
        simp only [if_pos (show ((i : Int) < (a.length : Int)) by omega), if_pos (show (0 : Int) ≤ i by omega), rdOf_get _ a i (by omega), w64 (show -9223372036854775808 ≤ left - (a[i].size : Int) by omega) (by omega), if_neg h2, w64 (show -9223372036854775808 ≤ (i : Int) + 1 by omega) (by omega)]
        exact h3
      · rw [e] at hs'
        rcases List.mem_cons.1 hs' with rfl | hs'
        · omega
        · have := h5 hr s hs'; omega
theorem szStringS_ev (a : List ByteArray) (left : Int) (hm : a.length ≤ maxLen) (hs : ∀ s ∈ a, s.size ≤ maxLen) (h0 : 0 ≤ left) (h1 : left ≤ 1048576) :
    ∃ r, Ev (fun k => laws_szStringS.f k a left) r ∧ r ≤ left ∧ (0 ≤ r → (a.length : Int) ≤ left ∧ ∀ s ∈ a, (s.size : Int) ≤ left) := by
  simp only [maxLen] at hm
  unfold laws_szStringS.f
  by_cases h2 : left - (a.length : Int) < 0
  · refine ⟨-1, ?_, by omega, fun h => by omega⟩
    simp only [w64 (show -9223372036854775808 ≤ left - (a.length : Int) by omega) (by omega), if_pos h2]
    exact Ev.now _
  · obtain ⟨r, h3, h4, h5⟩ := szStringS_loop a hm hs a.length 0 (left - a.length) (by omega) (by omega) (by omega)
    refine ⟨r, ?_, by omega, fun hr => ⟨by omega, fun s hs' => by have := h5 hr s hs'; omega⟩⟩
    simp only [w64 (show -9223372036854775808 ≤ left - (a.length : Int) by omega) (by omega), if_neg h2]
    exact h3
theorem strOfNums_one (x : Int) : (strOfNums [x]).size = 1 := by simp [strOfNums, ByteArray.size]
theorem markText_loop (m : Nat) : ∀ (n : Int) (acc : ByteArray), n.toNat < m → 0 ≤ n → n + acc.size ≤ 4611686018427387904 → ∃ s, Ev (fun k => laws_markText.l0 k n acc) s := by
  induction m with
  | zero => intro n acc h; omega
  | succ m ih =>
    intro n acc h h0 hb
    by_cases hn : n > 0
    · have e1 : Int.tmod n 10 = n % 10 := Int.tmod_eq_emod_of_nonneg h0
      have e2 : Int.tdiv n 10 = n / 10 := Int.tdiv_eq_ediv_of_nonneg h0
      have hsz : ∀ x : Int, (strOfNums [x] ++ acc).size = 1 + acc.size := fun x => by rw [ByteArray.size_append, strOfNums_one]
      obtain ⟨s, hs⟩ := ih (n / 10) (strOfNums [(wrap64 (48 + (n % 10))) % 256] ++ acc) (by omega) (by omega) (by rw [hsz]; omega)
      refine ⟨s, Ev.succ ?_⟩
      simp only [laws_markText.l0, if_pos hn, Option.bind_some, strOfNums_one, if_pos (show 1 + acc.size ≤ 9223372036854775807 by omega), e1, e2, w64 (show -9223372036854775808 ≤ n / 10 by omega) (by omega)]
      exact hs
    · refine ⟨(⟨#[109]⟩ : ByteArray) ++ acc, Ev.succ ?_⟩
      simp only [laws_markText.l0, if_neg hn, if_pos (show 1 + acc.size ≤ 9223372036854775807 by omega)]
      exact Ev.now _
theorem markText_some (n : Int) (h : n ≤ 4611686018427387904) : ∃ s, Ev (fun k => laws_markText.f k n) s := by
  unfold laws_markText.f
  by_cases hn : n ≤ 0
  · simp only [if_pos hn]; exact ⟨_, Ev.now _⟩
  · simp only [if_neg hn]
    exact markText_loop (n.toNat + 1) n ⟨#[]⟩ (by omega) (by omega) (by show n + 0 ≤ _; omega)
noncomputable def mtext (n : Int) : ByteArray := if h : n ≤ 4611686018427387904 then Classical.choose (markText_some n h) else ByteArray.empty
theorem mtext_ev (n : Int) (h : n ≤ 4611686018427387904) : Ev (fun k => laws_markText.f k n) (mtext n) := by
  unfold mtext
  rw [dif_pos h]
  exact Classical.choose_spec (markText_some n h)

noncomputable def marks (k : Int) (n : Nat) : List ByteArray := (List.range n).map fun i => mtext (k + (i : Nat))
theorem marks_length (k : Int) (n : Nat) : (marks k n).length = n := by simp [marks]
theorem marks_get (k : Int) (n i : Nat) (h : i < (marks k n).length) : (marks k n)[i] = mtext (k + (i : Nat)) := by simp [marks]
theorem markStringS_loop (n : Int) (h0 : 0 ≤ n) (d : Nat) : ∀ (i : Nat) (l : List ByteArray), i + d = l.length → n + l.length ≤ 1000000000 → l.take i = (marks n l.length).take i →
    Ev (fun k => laws_markStringS.l0 k l (n + (i : Int)) (i : Int)) (n + (l.length : Int), marks n l.length) := by
  induction d with
  | zero =>
    intro i l h hb ht
    refine Ev.succ ?_
    simp only [laws_markStringS.l0, if_neg (show ¬ ((i : Int) < (l.length : Int)) by omega)]
    refine ev_eq (Ev.now _) ?_
    rw [List.take_of_length_le (by omega), List.take_of_length_le (by rw [marks_length]; omega)] at ht
    rw [← ht, show (i : Int) = (l.length : Int) by omega]
  | succ d ih =>
    intro i l h hb ht
    refine Ev.succ ?_
    simp only [laws_markStringS.l0, if_pos (show ((i : Int) < (l.length : Int)) by omega)]
    refine Ev.bind (mtext_ev (n + (i : Int)) (by omega)) ?_
    simp only [if_pos (show (0 : Int) ≤ i by omega), Int.toNat_natCast, w64 (show -9223372036854775808 ≤ n + (i : Int) + 1 by omega) (by omega), w64 (show -9223372036854775808 ≤ (i : Int) + 1 by omega) (by omega)]
    have := ih (i + 1) (l.set i (mtext (n + (i : Int)))) (by simp; omega) (by simpa using hb) ?_
    · rw [List.length_set] at this
      rw [show n + (i : Int) + 1 = n + ((i + 1 : Nat) : Int) by omega, show (i : Int) + 1 = ((i + 1 : Nat) : Int) by omega]
      exact this
    · rw [List.length_set, List.take_succ_eq_append_getElem (by simp; omega), List.take_succ_eq_append_getElem (by rw [marks_length]; omega), List.take_set_of_le (by omega), ht, marks_get]
      simp
theorem markStringS_ev (l : List ByteArray) (n : Int) (h0 : 0 ≤ n) (hb : n + l.length ≤ 1000000000) : Ev (fun k => laws_markStringS.f k l n) (n + (l.length : Int), marks n l.length) := by
  have := markStringS_loop n h0 l.length 0 l (by omega) hb (by simp)
  simpa [laws_markStringS.f] using this
theorem heldStringS_loop (n : Int) (h0 : 0 ≤ n) (m : Nat) (hb : n + m ≤ 1000000000) (d : Nat) : ∀ (i : Nat), i + d = m →
    Ev (fun k => laws_heldStringS.l0 k (marks n m) (n + (i : Int)) (i : Int)) (n + (m : Int)) := by
  induction d with
  | zero =>
    intro i h
    refine Ev.succ ?_
    simp only [laws_heldStringS.l0, marks_length, if_neg (show ¬ ((i : Int) < (m : Int)) by omega)]
    refine ev_eq (Ev.now _) ?_
    omega
  | succ d ih =>
    intro i h
    refine Ev.succ ?_
    simp only [laws_heldStringS.l0, marks_length, if_pos (show ((i : Int) < (m : Int)) by omega), if_pos (show (0 : Int) ≤ i by omega), rdOf_get _ (marks n m) i (by rw [marks_length]; omega), marks_get]
    refine Ev.bind (mtext_ev (n + (i : Int)) (by omega)) ?_
    simp only [if_true, w64 (show -9223372036854775808 ≤ n + (i : Int) + 1 by omega) (by omega), w64 (show -9223372036854775808 ≤ (i : Int) + 1 by omega) (by omega)]
    rw [show n + (i : Int) + 1 = n + ((i + 1 : Nat) : Int) by omega, show (i : Int) + 1 = ((i + 1 : Nat) : Int) by omega]
    exact ih (i + 1) (by omega)
theorem heldStringS_ev (n : Int) (m : Nat) (h0 : 0 ≤ n) (hb : n + m ≤ 1000000000) : Ev (fun k => laws_heldStringS.f k (marks n m) n) (n + (m : Int)) := by
  have := heldStringS_loop n h0 m hb m 0 (by omega)
  simpa [laws_heldStringS.f] using this
theorem rd_int (l : List Int) (i : Nat) (h : i < l.length) : rd l (i : Int) = l[i] := by
  simp [rd, List.getD_eq_getElem?_getD, h]
def imarks (k : Int) (n : Nat) : List Int := (List.range n).map fun i => k + (i : Nat)
theorem imarks_length (k : Int) (n : Nat) : (imarks k n).length = n := by simp [imarks]
theorem imarks_get (k : Int) (n i : Nat) (h : i < (imarks k n).length) : (imarks k n)[i] = k + (i : Nat) := by simp [imarks]
theorem markIntS_loop (n : Int) (h0 : 0 ≤ n) (d : Nat) : ∀ (i : Nat) (l : List Int), i + d = l.length → n + l.length ≤ 1000000000 → l.take i = (imarks n l.length).take i →
    Ev (fun k => laws_markIntS.l0 k l (n + (i : Int)) (i : Int)) (n + (l.length : Int), imarks n l.length) := by
  induction d with
  | zero =>
    intro i l h hb ht
    refine Ev.succ ?_
    simp only [laws_markIntS.l0, if_neg (show ¬ ((i : Int) < (l.length : Int)) by omega)]
    refine ev_eq (Ev.now _) ?_
    rw [List.take_of_length_le (by omega), List.take_of_length_le (by rw [imarks_length]; omega)] at ht
    rw [← ht, show (i : Int) = (l.length : Int) by omega]
  | succ d ih =>
    intro i l h hb ht
    refine Ev.succ ?_
    simp only [laws_markIntS.l0, if_pos (show ((i : Int) < (l.length : Int)) by omega), if_pos (show (0 : Int) ≤ i by omega), Int.toNat_natCast, w64 (show -9223372036854775808 ≤ n + (i : Int) + 1 by omega) (by omega), w64 (show -9223372036854775808 ≤ (i : Int) + 1 by omega) (by omega)]
    have := ih (i + 1) (l.set i (n + (i : Int))) (by simp; omega) (by simpa using hb) ?_
    · rw [List.length_set] at this
      rw [show n + (i : Int) + 1 = n + ((i + 1 : Nat) : Int) by omega, show (i : Int) + 1 = ((i + 1 : Nat) : Int) by omega]
      exact this
    · rw [List.length_set, List.take_succ_eq_append_getElem (by simp; omega), List.take_succ_eq_append_getElem (by rw [imarks_length]; omega), List.take_set_of_le (by omega), ht, imarks_get]
      simp
theorem markIntS_ev (l : List Int) (n : Int) (h0 : 0 ≤ n) (hb : n + l.length ≤ 1000000000) : Ev (fun k => laws_markIntS.f k l n) (n + (l.length : Int), imarks n l.length) := by
  have := markIntS_loop n h0 l.length 0 l (by omega) hb (by simp)
  simpa [laws_markIntS.f] using this
theorem eqIntS_loop (a : List Int) (hm : a.length ≤ 1048576) (d : Nat) : ∀ i : Nat, i + d = a.length → Ev (fun k => laws_eqIntS.l0 k a a (i : Int)) true := by
  induction d with
  | zero =>
    intro i h
    refine Ev.succ ?_
    simp only [laws_eqIntS.l0, if_neg (show ¬ ((i : Int) < (a.length : Int)) by omega)]
    exact Ev.now _
  | succ d ih =>
    intro i h
    refine Ev.succ ?_
    simp only [laws_eqIntS.l0, if_pos (show ((i : Int) < (a.length : Int)) by omega), if_pos (show (0 : Int) ≤ i by omega), if_true, w64 (show -9223372036854775808 ≤ (i : Int) + 1 by omega) (by omega)]
    exact ih (i + 1) (by omega)
theorem eqIntS_ev (a : List Int) (hm : a.length ≤ 1048576) : Ev (fun k => laws_eqIntS.f k a a) true := by
  unfold laws_eqIntS.f
  simp only [if_true]
  exact eqIntS_loop a hm a.length 0 (by omega)

theorem toIntS_loop (a : List Int) (hm : a.length ≤ 9223372036854775807) (d : Nat) : ∀ (i : Nat) (b : List Int), i + d = a.length → b.length = a.length → b.take i = a.take i →
    Ev (fun k => laws_toIntS.l0 k a b (i : Int)) a := by
  induction d with
  | zero =>
    intro i b h hb ht
    refine Ev.succ ?_
    simp only [laws_toIntS.l0]
    simp only [if_neg (show ¬ ((i : Int) < (a.length : Int)) by omega)]
    refine ev_eq (Ev.now b) ?_
    rwa [List.take_of_length_le (by omega), List.take_of_length_le (by omega)] at ht
  | succ d ih =>
    intro i b h hb ht
    refine Ev.succ ?_
    simp only [laws_toIntS.l0]
    simp only [if_pos (show ((i : Int) < (a.length : Int)) by omega), if_pos (show (0 : Int) ≤ i by omega), if_pos (show ((i : Int) < (b.length : Int)) by omega), rd_int a i (by omega), Int.toNat_natCast]
    rw [w64 (by omega) (by omega)]
    refine ih (i + 1) _ (by omega) (by simpa using hb) ?_
    rw [List.take_succ_eq_append_getElem (by simp; omega), List.take_succ_eq_append_getElem (by omega), List.take_set_of_le (by omega), ht]
    simp
theorem toIntS_ev (a : List Int) (hm : a.length ≤ 1048576) : Ev (fun k => laws_toIntS.f k a) a := by
  unfold laws_toIntS.f
  simp only [if_pos (show (0 : Int) ≤ (a.length : Int) by omega), Int.toNat_natCast, if_pos (show a.length ≤ 35184372088832 by omega)]
  exact toIntS_loop a (by omega) a.length 0 _ (by omega) (by simp) (by simp)
end Go.Proofs.Ytaomgccdopbliaa.X
namespace Go.Proofs.Ytaomgccdopbliaa.Pure
open Go.RowKit Go.Proofs.Ytaomgccdopbliaa.X Go.Proofs.YtaomgccdopbliaaW.PrintWords Go.Proofs.YtaomgccdopbliaaW.PrintLast
theorem FnExactBreakAt : PureFnExactBreakAt := by
  intro l cs w ⟨hl, hs⟩ ⟨hcl, _⟩ hw
  refine Ev.rounds ?_
  unfold laws_FnExactBreakAt.f
  by_cases hc : (cs.length : Int) > 1048576
  · simp only [if_pos hc]; exact Ev.now _
  simp only [if_neg hc]
  obtain ⟨r, h1, h2, h3⟩ := szStringS_ev l 1048576 hl hs (by omega) (by omega)
  refine Ev.bind h1 ?_
  by_cases hr : r < 0
  · simp only [if_pos hr]; exact Ev.now _
  · simp only [if_neg hr]
    have hb := (h3 (by omega)).1
    have hto := toStringS_ev l (by omega)
    have hti := toIntS_ev cs (by omega)
    have hsp := spec_BreakAt_ev l cs w hl hs (by omega)
    have him := impl_BreakAt.val l cs w hs (by omega)
    have hlen := breakB_length l cs w
    generalize breakB l cs w = v at hsp him hlen
    obtain ⟨v1, v2⟩ := v
    simp only at hlen
    have heq := eqStringS_ev v1 v1 (by omega)
    refine Ev.bind hto ?_
    refine Ev.bind hti ?_
    refine Ev.bind hsp ?_
    refine Ev.bind hto ?_
    refine Ev.bind hti ?_
    simp only [him, Option.bind_some]
    refine Ev.bind heq ?_
    simp only [decide_true, if_true, bne_self_eq_false]
    refine Ev.succ ?_
    simp only [laws_FnExactBreakAt.j0, Bool.false_eq_true, if_false]
    refine Ev.bind hto ?_
    refine Ev.bind (eqStringS_ev l l (by omega)) ?_
    simp only [decide_true, if_true]
    refine Ev.bind hti ?_
    refine Ev.bind (eqIntS_ev cs (by omega)) ?_
    simp only [if_true]
    refine Ev.bind (markStringS_ev l 1 (by omega) (by omega)) ?_
    refine Ev.bind (markIntS_ev cs (1 + (l.length : Int)) (by omega) (by omega)) ?_
    simp only [if_neg (show ¬ (1 + (l.length : Int) + (cs.length : Int) < 0) by omega)]
    refine Ev.bind heq ?_
    simp only [decide_true, if_true, bne_self_eq_false]
    refine Ev.succ ?_
    simp only [laws_FnExactBreakAt.j1, Bool.false_eq_true, if_false]
    refine Ev.bind (markStringS_ev v1 1 (by omega) (by omega)) ?_
    have hheld := heldStringS_ev 1 v1.length (by omega) (by omega)
    refine Ev.bind hheld ?_
    simp only [if_neg (show ¬ (1 + (v1.length : Int) < 0) by omega), if_true]
    refine Ev.bind hto ?_
    refine Ev.bind hti ?_
    simp only [him, Option.bind_some]
    refine Ev.bind heq ?_
    simp only [decide_true, if_true, bne_self_eq_false]
    refine Ev.succ ?_
    simp only [laws_FnExactBreakAt.j2, Bool.false_eq_true, if_false]
    refine Ev.bind hheld ?_
    simp only [if_neg (show ¬ (1 + (v1.length : Int) < 0) by omega), if_true]
    exact Ev.now _
end Go.Proofs.Ytaomgccdopbliaa.Pure
namespace Go.Proofs.Ytaomgccdopbliaa.fnExactBreakAt
open Go.ChangeShapes Go.WideShapes Go.ChangeAt Go.RowKit
open Go.ChangeMaps (open_string shut_string)
open Go.Proofs.YtaomgccdopbliaaW.PrintWords Go.Proofs.Ytaomgccdopbliaa.X
set_option linter.unusedVariables false
theorem own : ownKnob Try.prog.godebug = none := by kernel_rfl
theorem laidOut : laidOutB Try.prog = true := by kernel_rfl
set_option maxRecDepth 100000 in
theorem lifted (os : Os) (started : os.Started) (H : Type) (enc : TypeId × Value → H) :
    ReturnsInHanded {} Try.checked os 5 .any (Rows.fnExactBreakAtSpec.pre6 enc Try.prog Try.f5 Rows.fnExactBreakAtRow.domain false) (Rows.fnExactBreakAtSpec.post enc Try.prog Try.f5 false true false false) := by
  refine returnsInHanded_of_change_sized (C := Try.checked) own started (by kernel_rfl) Try.func5
    (ChangeSpec.witness6 (enc := enc) (C := Try.checked) false ⟨#[], #[.slice none 0 0, .slice none 0 0, .int .i64 0], []⟩ 8 (by kernel_rfl) (by kernel_rfl) (by kernel_rfl) (by kernel_rfl)) ?_
  intro W base args ds gs before hval0 hW hcnd hsz0 _
  have hval : ∀ (j : Nat) t v, Try.f5.params[j]? = some t → args[j]? = some v → Value.okWide Try.prog W .any base t v := hval0
  have hW' := hW
  obtain ⟨p, q, hA0, hV, rfl, hfz, hnd⟩ := hW
  have hA : DataW.TrodAll enc Try.prog W 0 (fun _ => true) true Try.f5.params.toList args.toList ds p := hA0
  rw [Try.params5] at hA hval
  obtain ⟨v0, vs0, d0, ds0, p0, q0, hargs, rfl, rfl, h0, r0⟩ := trodAll_cons hA
  obtain ⟨v1, vs1, d1, ds1, p1, q1, rfl, rfl, rfl, h1, r1⟩ := trodAll_cons r0
  obtain ⟨v2, vs2, d2, ds2, p2, q2, rfl, rfl, rfl, h2, r2⟩ := trodAll_cons r1
  obtain ⟨rfl, rfl, rfl⟩ := trodAll_nil r2
  obtain rfl : args = #[v0, v1, v2] := by cases args; simp_all
  obtain ⟨rfl, rfl⟩ := trodVars_none hV
  have k0 := h0
  have lt0 : ∀ x ∈ p0, x.block < W.heap.size := by obtain ⟨m, hm⟩ := k0; exact DataW.trod_lt m _ _ _ hm
  obtain ⟨fuel0, hf0⟩ := h0
  obtain ⟨A0_, len0, cap0, rfl⟩ := okWide_slice Try.underlying22 (hval 0 22 v0 rfl rfl)
  obtain ⟨l0, ⟨A0, c0, he0, hc0, hr0⟩, b0⟩ := (opens_slice Try.underlying22 (by kernel_rfl) (opens_string Try.underlying9)) H enc W _ _ _ hf0
  simp only [Value.cells, List.cons.injEq, Value.slice.injEq, and_true] at he0
  obtain ⟨rfl, rfl, rfl⟩ := he0
  have k1 := h1
  have lt1 : ∀ x ∈ p1, x.block < W.heap.size := by obtain ⟨m, hm⟩ := k1; exact DataW.trod_lt m _ _ _ hm
  obtain ⟨fuel1, hf1⟩ := h1
  obtain ⟨A1_, len1, cap1, rfl⟩ := okWide_slice Try.underlying32 (hval 1 32 v1 rfl rfl)
  obtain ⟨l1, ⟨A1, c1, he1, hc1, hr1⟩, b1⟩ := (opens_slice Try.underlying32 (by kernel_rfl) (opens_int Try.underlying3)) H enc W _ _ _ hf1
  simp only [Value.cells, List.cons.injEq, Value.slice.injEq, and_true] at he1
  obtain ⟨rfl, rfl, rfl⟩ := he1
  obtain ⟨a2, rfl, rfl, rfl, w2⟩ := open_int Try.underlying3 (hval 2 3 v2 rfl rfl) h2
  clear hA0 hval0 hsz0
  have hP : PureFnExactBreakAt := Pure.FnExactBreakAt
  obtain ⟨k, hk⟩ := hP l0 l1 a2 b0 b1 w2
  refine (laws_FnExactBreakAt.calls k _ _ l0 _ _ l1 a2 true W hr0 hc0 hr1 hc1 hk).mono fun e W' ⟨he, bel0⟩ => ?_
  have bel : Below W.heap.size W W' := bel0
  subst he
  exact ⟨_, rfl, _, _, _, [], _, [], hW', trodAll_mk1 (shut_bool Try.underlying4 _), (trodAll_cons_mk (Below.trod laidOut (by kernel_rfl) (of_decide_eq_true (by kernel_rfl)) k0 bel lt0) (trodAll_cons_mk (Below.trod laidOut (by kernel_rfl) (of_decide_eq_true (by kernel_rfl)) k1 bel lt1) (trodAll_cons_mk (shut_int Try.underlying3 w2) trodAll_mk0))), rfl, bel.frame _, fun h => by cases h⟩
theorem over : Rows.fnExactBreakAtRow.holds Try.pinned (OpenSpec.ofChange Rows.fnExactBreakAtSpec) :=
  OpenClaim.holds_of_wide 5 Try.f5 rfl rfl rfl rfl rfl rfl rfl ⟨rfl, rfl, rfl, rfl, rfl⟩ rfl rfl rfl rfl rfl (by kernel_rfl) Try.func5 (by kernel_rfl)
    (of_decide_eq_true (by kernel_rfl)) (by unfold Func.isWrapper; first | (rw [if_pos (by decide +kernel)]; kernel_rfl) | (rw [if_neg (by decide +kernel)]; exact ⟨rfl, rfl⟩))
    (fun os started H enc _ => lifted os started H enc)
theorem proved : Rows.FnExactBreakAtSaid := over
#print axioms proved
end Go.Proofs.Ytaomgccdopbliaa.fnExactBreakAt
namespace Go.Proofs.Ytaomgccdopbliaa
theorem fnExactBreakAt_holds : Rows.FnExactBreakAtSaid := fnExactBreakAt.proved
end Go.Proofs.Ytaomgccdopbliaa
