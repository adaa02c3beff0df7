-- Written for this seat by wip/tools/xprint.py of this repo.
import Derived.Test.YtdniecpijkhpnaaX0
import Derived.Test.YtdniecpijkhpnaaX55
namespace Go.Proofs.Ytdniecpijkhpnaa.X
open Go.RowKit Go.Proofs.YtdniecpijkhpnaaW.PrintWords Go.Proofs.YtdniecpijkhpnaaW.PrintLast Go.Proofs.YtdniecpijkhpnaaW.PrintMore
attribute [local go_sem] max2_int min2_int max_two min_two max_three min_three max_four min_four   -- for this text's walks alone
set_option linter.unusedVariables false
set_option linter.unusedSimpArgs false

/-! ### spec_l13Greedy: function 45 -/
mutual
def spec_l13Greedy.l0 : Nat → List ByteArray → Int → List ByteArray → Option (List ByteArray)
  | 0, _, _, _ => none
  | k + 1, x0, x1, x5 => if (x0.length : Int) > 0 then (spec_l13Greedy.l1 k x0 x1 x5 1) else (some x5)
def spec_l13Greedy.l1 : Nat → List ByteArray → Int → List ByteArray → Int → Option (List ByteArray)
  | 0, _, _, _, _ => none
  | k + 1, x0, x1, x5, x6 => if x6 < (x0.length : Int) then (if 0 ≤ (wrap64 (x6 + 1)) then (if (wrap64 (x6 + 1)) ≤ (x0.length : Int) then ((spec_l13Join.f k (x0.take ((wrap64 (x6 + 1)) : Int).toNat)).bind fun t106 => (if (t106.size : Int) ≤ x1 then (spec_l13Greedy.l1 k x0 x1 x5 (wrap64 (x6 + 1))) else (if 0 ≤ x6 then (if x6 ≤ (x0.length : Int) then ((spec_l13Join.f k (x0.take (x6 : Int).toNat)).bind fun t112 => (if x5.length < 8796093022208 then (spec_l13Greedy.l0 k (x0.drop (x6 : Int).toNat) x1 (x5 ++ [t112])) else (none))) else (none)) else (none)))) else (none)) else (none)) else (if 0 ≤ x6 then (if x6 ≤ (x0.length : Int) then ((spec_l13Join.f k (x0.take (x6 : Int).toNat)).bind fun t126 => (if x5.length < 8796093022208 then (spec_l13Greedy.l0 k (x0.drop (x6 : Int).toNat) x1 (x5 ++ [t126])) else (none))) else (none)) else (none))
end
def spec_l13Greedy.f (k : Nat) (l0 : List ByteArray) (a1 : Int) : Option (List ByteArray) := spec_l13Greedy.l0 k l0 a1 ([] : List ByteArray)
theorem spec_l13Greedy.mono_l : ∀ k, (∀ y0 y1 y2, LeO (spec_l13Greedy.l0 k y0 y1 y2) (spec_l13Greedy.l0 (k + 1) y0 y1 y2)) ∧ (∀ y0 y1 y2 y3, LeO (spec_l13Greedy.l1 k y0 y1 y2 y3) (spec_l13Greedy.l1 (k + 1) y0 y1 y2 y3))
  | 0 => ⟨fun _ _ _ r h => by simp [spec_l13Greedy.l0] at h, fun _ _ _ _ r h => by simp [spec_l13Greedy.l1] at h⟩
  | k + 1 => by
    obtain ⟨ih0, ih1⟩ := spec_l13Greedy.mono_l k
    refine ⟨?_, ?_⟩
    · intro y0 y1 y2
      unfold spec_l13Greedy.l0
      repeat' first
      | (with_reducible exact ih0 _ _ _)
      | (with_reducible exact ih1 _ _ _ _)
      | (with_reducible exact spec_l13Join.mono _ _)
      | (with_reducible exact LeO.refl _)
      | (with_reducible exact LeO.none _)
      | (with_reducible refine LeO.ite ?_ ?_)
      | (with_reducible refine LeO.bind ?_ (fun _ => ?_))
      | exact ih0 _ _ _
      | exact ih1 _ _ _ _
      | exact spec_l13Join.mono _ _
      | exact LeO.none _
      | refine LeO.ite ?_ ?_
      | refine LeO.bind ?_ (fun _ => ?_)
    · intro y0 y1 y2 y3
      unfold spec_l13Greedy.l1
      repeat' first
      | (with_reducible exact ih0 _ _ _)
      | (with_reducible exact ih1 _ _ _ _)
      | (with_reducible exact spec_l13Join.mono _ _)
      | (with_reducible exact LeO.refl _)
      | (with_reducible exact LeO.none _)
      | (with_reducible refine LeO.ite ?_ ?_)
      | (with_reducible refine LeO.bind ?_ (fun _ => ?_))
      | exact ih0 _ _ _
      | exact ih1 _ _ _ _
      | exact spec_l13Join.mono _ _
      | exact LeO.none _
      | refine LeO.ite ?_ ?_
      | refine LeO.bind ?_ (fun _ => ?_)
theorem spec_l13Greedy.mono : ∀ a0 a1 k, LeO (spec_l13Greedy.f k a0 a1) (spec_l13Greedy.f (k + 1) a0 a1) := by
  intro a0 a1 k
  obtain ⟨ih0, ih1⟩ := spec_l13Greedy.mono_l k
  unfold spec_l13Greedy.f
  repeat' first
      | (with_reducible exact ih0 _ _ _)
      | (with_reducible exact ih1 _ _ _ _)
      | (with_reducible exact spec_l13Join.mono _ _)
      | (with_reducible exact LeO.refl _)
      | (with_reducible exact LeO.none _)
      | (with_reducible refine LeO.ite ?_ ?_)
      | (with_reducible refine LeO.bind ?_ (fun _ => ?_))
      | exact ih0 _ _ _
      | exact ih1 _ _ _ _
      | exact spec_l13Join.mono _ _
      | exact LeO.none _
      | refine LeO.ite ?_ ?_
      | refine LeO.bind ?_ (fun _ => ?_)
set_option maxHeartbeats 8000000 in
set_option maxRecDepth 100000 in
theorem spec_l13Greedy.calls (k : Nat) (P0_ : Nat → Prop) (A0 : Option Addr) (c0 : Nat) (l0 : List ByteArray) (a1 : Int) (r : List ByteArray) (w : World) (hs0 : Kd.V Kd.string 9 w w.heap.size (fun k_ => P0_ k_) (.slice A0 l0.length c0) l0) (h : spec_l13Greedy.f k l0 a1 = some r) :
    Calls Try.prog 45 #[.slice A0 l0.length c0, .int .i64 a1] w fun e w' => ∃ v0_ : Value, e = .returned (v0_) ∧ Kd.R Kd.string 9 w' w.heap.size (fun k_ => (w.heap.size ≤ k_)) v0_ r ∧ Below w.heap.size w w' := by
  have HO0 := Aside0.mk (show Kd.V Kd.string 9 w w.heap.size (fun k_ => (P0_ k_ ∨ w.heap.size ≤ k_)) (.slice A0 l0.length c0) l0 from Kd.V_mono hs0 (fun k_ hk => .inl hk))
  have HB := Aside0.mk (Below.refl w.heap.size w)
  have H : (spec_l13Greedy.l0 k l0 a1 ([] : List ByteArray)) = some r := h
  clear h
  have H' := Aside0.mk H
  clear H
  go_enter Try.func45, Try.ntmps45
  go_wp2
  go_loopg [0, 5] k (fun kq v0 v5 w' => ∃ (x0_1 : List ByteArray) (x5_1 : List ByteArray), Aside0 (spec_l13Greedy.l0 kq x0_1 a1 x5_1 = some r) ∧ Aside0 (kq ≤ k) ∧ Aside0 (Kd.V Kd.string 9 w' w.heap.size (fun k_ => (P0_ k_ ∨ w.heap.size ≤ k_) ∧ some k_ ≠ (v5 : Value).ownBlock) v0 x0_1) ∧ Aside0 (Kd.R Kd.string 9 w' w.heap.size (fun k_ => (w.heap.size ≤ k_)) v5 x5_1) ∧ Aside0 (Below w.heap.size w w'))
  case atStart => exact ⟨(l0), (([] : List ByteArray)), H', ⟨Nat.le_refl _⟩, ⟨by (with_reducible repeat (first | apply Kd.V_alloc | apply Kd.V_drewN | apply Kd.V_drew)); exact Kd.V_mono HO0.out (fun _ hk => ⟨hk, (by simp [Value.ownBlock])⟩)⟩, ⟨by first | exact Kd.R_nil _ _ _ _ _ | exact Kd.N_nil _ _ _ _ _ | exact Kd.V_nil _ _ _ _ _ | exact Kd.Q_nil _ _ _ _ _ | exact Kd.S_nil _ _ _ _ _⟩, ⟨by repeat (first | (with_reducible first | exact HB.out | apply below_alloc | apply pw_below_drewN | apply below_drew1) | exact HB.out)⟩⟩
  case round =>
    clear H'
    try clear p2
    obtain ⟨x0_1, x5_1, HA, HK1, HO_0, HO_5, HB⟩ := hrel
    cases gk with
    | zero => exact absurd HA.out (by simp [spec_l13Greedy.l0])
    | succ k1 =>
      have H := HA.out
      clear HA
      simp only [spec_l13Greedy.l0] at H
      by_cases c3 : (x0_1.length : Int) > 0
      · rw [if_pos c3] at H
        have c3b0 : decide (0 < (x0_1.length : Int)) = true := decide_eq_true c3
        have c3b1 : decide (0 < x0_1.length) = true := decide_eq_true (by omega)
        clear c3
        have H' := Aside0.mk H
        clear H
        obtain ⟨Ao4, co4, eo4⟩ := Kd.V_slice HO_0.out
        subst eo4
        go_wp2
        go_loopg [6] k1 (fun kq v6 w' => ∃ (x6_2 : Int), v6 = .int .i64 x6_2 ∧ Aside0 (spec_l13Greedy.l1 kq x0_1 a1 x5_1 x6_2 = some r) ∧ Aside0 (kq ≤ k1) ∧ Aside0 (Kd.V Kd.string 9 w' w.heap.size (fun k_ => (P0_ k_ ∨ w.heap.size ≤ k_) ∧ some k_ ≠ (u5 : Value).ownBlock) (.slice Ao4 x0_1.length co4) x0_1) ∧ Aside0 (Kd.R Kd.string 9 w' w.heap.size (fun k_ => (w.heap.size ≤ k_)) u5 x5_1) ∧ Aside0 (Below w.heap.size w w'))
        case atStart => exact ⟨(1), (by first | rfl | (simp; done) | (simp [*]; done)), H', ⟨Nat.le_refl _⟩, ⟨by (with_reducible repeat (first | apply Kd.V_alloc | apply Kd.V_drewN | apply Kd.V_drew)); exact HO_0.out⟩, ⟨by (with_reducible repeat (first | apply Kd.R_alloc | apply Kd.R_drewN | apply Kd.R_drew)); exact HO_5.out⟩, ⟨by repeat (first | (with_reducible first | exact HB.out | apply below_alloc | apply pw_below_drewN | apply below_drew1) | exact HB.out)⟩⟩
        case round =>
          clear H'
          try clear p2
          try clear c3
          try clear c3b0
          try clear c3b1
          try clear c4
          try clear p2
          obtain ⟨x6_2, rfl, HA, HK2, HO_0, HO_5, HB⟩ := hrel
          cases gk with
          | zero => exact absurd HA.out (by simp [spec_l13Greedy.l1])
          | succ k2 =>
            have H := HA.out
            clear HA
            simp only [spec_l13Greedy.l1] at H
            by_cases c5 : x6_2 < (x0_1.length : Int)
            · rw [if_pos c5] at H
              have c5b0 : decide (x6_2 < (x0_1.length : Int)) = true := decide_eq_true c5
              clear c5
              obtain ⟨ji6, hji6⟩ : ∃ j_ : Int, (wrap64 (x6_2 + 1)) = j_ := ⟨_, rfl⟩
              replace H : (if 0 ≤ (ji6) then (if (ji6) ≤ (x0_1.length : Int) then ((spec_l13Join.f k2 (x0_1.take ((ji6) : Int).toNat)).bind fun t106 => (if (t106.size : Int) ≤ a1 then (spec_l13Greedy.l1 k2 x0_1 a1 x5_1 ji6) else (if 0 ≤ x6_2 then (if x6_2 ≤ (x0_1.length : Int) then ((spec_l13Join.f k2 (x0_1.take (x6_2 : Int).toNat)).bind fun t112 => (if x5_1.length < 8796093022208 then (spec_l13Greedy.l0 k2 (x0_1.drop (x6_2 : Int).toNat) a1 (x5_1 ++ [t112])) else (none))) else (none)) else (none)))) else (none)) else (none)) = some r := by first | (rw [hji6] at H; exact H) | (simp only [hji6] at H ⊢; exact H)
              have hji6w : (IntKind.i64.wrap (x6_2 + 1)) = ji6 := (i64_w _).trans hji6
              by_cases c7 : 0 ≤ (ji6)
              · rw [if_pos c7] at H
                have c7b0 := eq_true c7
                have c7b1 : decide (0 ≤ (ji6)) = true := decide_eq_true c7
                clear c7
                by_cases c8 : (ji6) ≤ (x0_1.length : Int)
                · rw [if_pos c8] at H
                  have c8b0 := eq_true c8
                  have c8b1 : decide ((ji6) ≤ (x0_1.length : Int)) = true := decide_eq_true c8
                  clear c8
                  obtain ⟨y101, hy101⟩ : ∃ y_ : List ByteArray, y_ = (x0_1.take ((ji6) : Int).toNat) := ⟨_, rfl⟩
                  replace H : ((spec_l13Join.f k2 y101).bind fun t106 => (if (t106.size : Int) ≤ a1 then (spec_l13Greedy.l1 k2 x0_1 a1 x5_1 ji6) else (if 0 ≤ x6_2 then (if x6_2 ≤ (x0_1.length : Int) then ((spec_l13Join.f k2 (x0_1.take (x6_2 : Int).toNat)).bind fun t112 => (if x5_1.length < 8796093022208 then (spec_l13Greedy.l0 k2 (x0_1.drop (x6_2 : Int).toNat) a1 (x5_1 ++ [t112])) else (none))) else (none)) else (none)))) = some r := by first | (rw [hy101]; with_reducible exact H) | (have H2_ := (Option.bind_some _ _).symm.trans H; rw [hy101]; with_reducible exact H2_) | (have H2_ := (Option.bind_some _ _).symm.trans H; with_reducible exact H2_) | with_reducible exact H | (rw [hy101]; exact H) | exact H
                  have Ny101 := Aside0.mk hy101
                  clear hy101
                  replace H := Option.bind_eq_some_iff.mp H
                  obtain ⟨t106, A90, H⟩ := H
                  replace H : (if (t106.size : Int) ≤ a1 then (spec_l13Greedy.l1 k2 x0_1 a1 x5_1 ji6) else (if 0 ≤ x6_2 then (if x6_2 ≤ (x0_1.length : Int) then ((spec_l13Join.f k2 (x0_1.take (x6_2 : Int).toNat)).bind fun t112 => (if x5_1.length < 8796093022208 then (spec_l13Greedy.l0 k2 (x0_1.drop (x6_2 : Int).toNat) a1 (x5_1 ++ [t112])) else (none))) else (none)) else (none))) = some r := H
                  have A9 := Aside0.mk A90
                  clear A90
                  by_cases c10 : (t106.size : Int) ≤ a1
                  · rw [if_pos c10] at H
                    have c10b0 : decide ((t106.size : Int) ≤ a1) = true := decide_eq_true c10
                    clear c10
                    have H' := Aside0.mk H
                    clear H
                    have q11 : ((ji6) : Int) ≤ ((x0_1.length : Int) : Int) := of_decide_eq_true (by first | (with_reducible assumption) | assumption)
                    obtain ⟨i011, hi011, _, hsz11, _⟩ := info_parts info9
                    have hroom11 : x0_1.length ≤ co4 := (Kd.V_reads' HO_0.out).2.1
                    have hC11 : Kd.F Kd.string _ _ Ao4 x0_1.length x0_1 := (Kd.V_at (base := w.heap.size) HO_0.out).2.2
                    have hcut11 := cut_to (P := Try.prog) 24 9 .i64 Try.underlying24 hi011 Ao4 x0_1.length co4 (ji6) (of_decide_eq_true (by first | (with_reducible assumption) | assumption)) q11 hroom11
                    have hr11 := Kd.F_take (m := ((ji6) : Int).toNat) hC11 (by omega)
                    have hy11 : y101.length = ((ji6) : Int).toNat := (by rw [Ny101.out, List.length_take]; omega)
                    rw [← Ny101.out] at hr11
                    rw [← hy11] at hcut11
                    have HO105 := Aside0.mk (show Kd.V Kd.string 9 _ w.heap.size _ (.slice Ao4 y101.length co4) y101 from Kd.V_mk (by omega) hr11)
                    have HC105 := Aside0.mk (show y101.length ≤ co4 from by omega)
                    clear hr11 hC11 hroom11 hi011 hsz11
                    have KY11 := Aside0.mk hy11
                    clear hy11
                    replace q11 := eq_true q11
                    go_wp2_with (first | (go_at_call 55; (with_reducible refine (spec_l13Join.calls k2 _ _ y101 t106 _ ?side1 ?side2 A9.out).mono ?_); (case side1 => repeat (first | exact (Kd.V_reads' HO105.out).2.2 | (with_reducible refine Kd.C_alloc ?_ _) | (with_reducible refine Kd.C_drewN ?_ _) | (with_reducible refine Kd.C_drew ?_))); (case side2 => exact (Kd.V_reads' HO105.out).2.1); rintro e w' ⟨rfl, ⟨nd, rfl⟩⟩))
                    go_roundg k2
                    case measure => have := HK1.out; have := HK2.out; omega
                    case rel => exact ⟨(ji6), (by first | rfl | (simp; done) | (simp only [← hji6] <;> (first | rfl | simp)) | (simp [*]; done)), H', ⟨by have := HK1.out; have := HK2.out; omega⟩, ⟨by (with_reducible repeat (first | apply Kd.V_alloc | apply Kd.V_drewN | apply Kd.V_drew)); exact HO_0.out⟩, ⟨by (with_reducible repeat (first | apply Kd.R_alloc | apply Kd.R_drewN | apply Kd.R_drew)); exact HO_5.out⟩, ⟨by repeat (first | (with_reducible first | exact HB.out | apply below_alloc | apply pw_below_drewN | apply below_drew1) | exact HB.out)⟩⟩
                  · rw [if_neg c10] at H
                    have c10b0 : decide ((t106.size : Int) ≤ a1) = false := decide_eq_false c10
                    clear c10
                    by_cases c12 : 0 ≤ x6_2
                    · rw [if_pos c12] at H
                      have c12b0 := eq_true c12
                      have c12b1 : decide (0 ≤ x6_2) = true := decide_eq_true c12
                      clear c12
                      by_cases c13 : x6_2 ≤ (x0_1.length : Int)
                      · rw [if_pos c13] at H
                        have c13b0 := eq_true c13
                        have c13b1 : decide (x6_2 ≤ (x0_1.length : Int)) = true := decide_eq_true c13
                        clear c13
                        obtain ⟨y107, hy107⟩ : ∃ y_ : List ByteArray, y_ = (x0_1.take (x6_2 : Int).toNat) := ⟨_, rfl⟩
                        replace H : ((spec_l13Join.f k2 y107).bind fun t112 => (if x5_1.length < 8796093022208 then (spec_l13Greedy.l0 k2 (x0_1.drop (x6_2 : Int).toNat) a1 (x5_1 ++ [t112])) else (none))) = some r := by first | (rw [hy107]; with_reducible exact H) | (have H2_ := (Option.bind_some _ _).symm.trans H; rw [hy107]; with_reducible exact H2_) | (have H2_ := (Option.bind_some _ _).symm.trans H; with_reducible exact H2_) | with_reducible exact H | (rw [hy107]; exact H) | exact H
                        have Ny107 := Aside0.mk hy107
                        clear hy107
                        replace H := Option.bind_eq_some_iff.mp H
                        obtain ⟨t112, A140, H⟩ := H
                        replace H : (if x5_1.length < 8796093022208 then (spec_l13Greedy.l0 k2 (x0_1.drop (x6_2 : Int).toNat) a1 (x5_1 ++ [t112])) else (none)) = some r := H
                        have A14 := Aside0.mk A140
                        clear A140
                        by_cases c15 : x5_1.length < 8796093022208
                        · rw [if_pos c15] at H
                          have LMc15 := Aside0.mk c15
                          clear c15
                          obtain ⟨y113, hy113⟩ : ∃ y_ : List ByteArray, y_ = (x5_1 ++ [t112]) := ⟨_, rfl⟩
                          replace H : (spec_l13Greedy.l0 k2 (x0_1.drop (x6_2 : Int).toNat) a1 y113) = some r := by first | (rw [hy113]; with_reducible exact H) | (have H2_ := (Option.bind_some _ _).symm.trans H; rw [hy113]; with_reducible exact H2_) | (have H2_ := (Option.bind_some _ _).symm.trans H; with_reducible exact H2_) | with_reducible exact H | (rw [hy113]; exact H) | exact H
                          have Ny113 := Aside0.mk hy113
                          clear hy113
                          have c16b0 := eq_true (of_decide_eq_true (by first | (with_reducible assumption) | assumption) : 0 ≤ x6_2)
                          have c17b0 := eq_true (of_decide_eq_true (by first | (with_reducible assumption) | assumption) : x6_2 ≤ (x0_1.length : Int))
                          obtain ⟨y116, hy116⟩ : ∃ y_ : List ByteArray, y_ = (x0_1.drop (x6_2 : Int).toNat) := ⟨_, rfl⟩
                          replace H : (spec_l13Greedy.l0 k2 y116 a1 y113) = some r := by first | (rw [hy116]; with_reducible exact H) | (have H2_ := (Option.bind_some _ _).symm.trans H; rw [hy116]; with_reducible exact H2_) | (have H2_ := (Option.bind_some _ _).symm.trans H; with_reducible exact H2_) | with_reducible exact H | (rw [hy116]; exact H) | exact H
                          have Ny116 := Aside0.mk hy116
                          clear hy116
                          have H' := Aside0.mk H
                          clear H
                          have q18 : ((ji6) : Int) ≤ ((x0_1.length : Int) : Int) := of_decide_eq_true (by first | (with_reducible assumption) | assumption)
                          obtain ⟨i018, hi018, _, hsz18, _⟩ := info_parts info9
                          have hroom18 : x0_1.length ≤ co4 := (Kd.V_reads' HO_0.out).2.1
                          have hC18 : Kd.F Kd.string _ _ Ao4 x0_1.length x0_1 := (Kd.V_at (base := w.heap.size) HO_0.out).2.2
                          have hcut18 := cut_to (P := Try.prog) 24 9 .i64 Try.underlying24 hi018 Ao4 x0_1.length co4 (ji6) (of_decide_eq_true (by first | (with_reducible assumption) | assumption)) q18 hroom18
                          have hr18 := Kd.F_take (m := ((ji6) : Int).toNat) hC18 (by omega)
                          have hy18 : y101.length = ((ji6) : Int).toNat := (by rw [Ny101.out, List.length_take]; omega)
                          rw [← Ny101.out] at hr18
                          rw [← hy18] at hcut18
                          have HO105 := Aside0.mk (show Kd.V Kd.string 9 _ w.heap.size _ (.slice Ao4 y101.length co4) y101 from Kd.V_mk (by omega) hr18)
                          have HC105 := Aside0.mk (show y101.length ≤ co4 from by omega)
                          clear hr18 hC18 hroom18 hi018 hsz18
                          have KY18 := Aside0.mk hy18
                          clear hy18
                          replace q18 := eq_true q18
                          go_wp2_with (first | (go_at_call 55; (with_reducible refine (spec_l13Join.calls k2 _ _ y101 t106 _ ?side1 ?side2 A9.out).mono ?_); (case side1 => repeat (first | exact (Kd.V_reads' HO105.out).2.2 | (with_reducible refine Kd.C_alloc ?_ _) | (with_reducible refine Kd.C_drewN ?_ _) | (with_reducible refine Kd.C_drew ?_))); (case side2 => exact (Kd.V_reads' HO105.out).2.1); rintro e w' ⟨rfl, ⟨nd, rfl⟩⟩; have q19 : (x6_2 : Int) ≤ ((x0_1.length : Int) : Int) := of_decide_eq_true (by first | (with_reducible assumption) | assumption); obtain ⟨i019, hi019, _, hsz19, _⟩ := info_parts info9; have hroom19 : x0_1.length ≤ co4 := (Kd.V_reads' HO_0.out).2.1; have hC19 : Kd.F Kd.string _ _ Ao4 x0_1.length x0_1 := (Kd.V_at (base := w.heap.size) HO_0.out).2.2; have hcut19 := cut_to (P := Try.prog) 24 9 .i64 Try.underlying24 hi019 Ao4 x0_1.length co4 x6_2 (of_decide_eq_true (by first | (with_reducible assumption) | assumption)) q19 hroom19; have hr19 := Kd.F_take (m := (x6_2 : Int).toNat) hC19 (by omega); have hy19 : y107.length = (x6_2 : Int).toNat := (by rw [Ny107.out, List.length_take]; omega); rw [← Ny107.out] at hr19; rw [← hy19] at hcut19; have HO111 := Aside0.mk (show Kd.V Kd.string 9 _ w.heap.size _ (.slice Ao4 y107.length co4) y107 from Kd.V_mk (by omega) hr19); have HC111 := Aside0.mk (show y107.length ≤ co4 from by omega); clear hr19 hC19 hroom19 hi019 hsz19; have KY19 := Aside0.mk hy19; clear hy19; replace q19 := eq_true q19) | ((with_reducible refine gate_callee (f := 55) rfl ?_); refine goesL_ (some 30) rfl rfl Try.func55 (by kernel_rfl) rfl #[.slice Ao4 y107.length co4] rfl (by (try simp only [List.map_toArray, List.map_cons, List.map_nil]); first | done | rfl | (simp only [List.length_drop, List.length_take]; rfl)) ?_; (with_reducible refine (spec_l13Join.calls k2 _ _ y107 t112 _ ?side1 ?side2 A14.out).mono ?_); (case side1 => repeat (first | exact (Kd.V_reads' HO111.out).2.2 | (with_reducible refine Kd.C_alloc ?_ _) | (with_reducible refine Kd.C_drewN ?_ _) | (with_reducible refine Kd.C_drew ?_))); (case side2 => exact (Kd.V_reads' HO111.out).2.1); rintro e w' ⟨rfl, ⟨nd, rfl⟩⟩; refine ⟨_, rfl, ?_⟩) | ((with_reducible refine gate_builtin (b := .append) (xs := #[.tmp 26, .tmp 31]) rfl ?_); (try (refine gate_guard (by rfl) ?_; dsimp only)); at_builtin; refine Kd.R_append Kd.string (w0 := w) w.heap.size rfl (.tmp 26) (.tmp 31) 24 9 (.string ⟨#[]⟩) 16 rfl Try.underlying24 info9 rfl (by decide) (by omega) u5 x5_1 t112 [.string t112] (fun k_ => (w.heap.size ≤ k_)) (fun _ => False) rfl rfl ?aP (fun _ hk => hk.elim) ?aF ?aO ?aB ?aS ?aL ?_; (case aP => exact rfl); (case aB => exact (by repeat (first | (with_reducible first | exact HB.out | apply below_alloc | apply pw_below_drewN | apply below_drew1) | exact HB.out))); (case aF => exact (fun k_ hk => (Nat.le_trans (below_size (by repeat (first | (with_reducible first | exact HB.out | apply below_alloc | apply pw_below_drewN | apply below_drew1) | exact HB.out))) hk))); (case aO => exact (by (with_reducible repeat (first | apply Kd.R_alloc | apply Kd.R_drewN | apply Kd.R_drew)); exact HO_5.out)); (case aS => exact (below_size (by repeat (first | (with_reducible first | exact HB.out | apply below_alloc | apply pw_below_drewN | apply below_drew1) | exact HB.out)))); (case aL => have := LMc15.out; omega); intro v114 w20 ho hb hg hat; rw [← Ny113.out] at ho; have n0_ := Aside0.mk (Kd.V_afterv (ok := (fun k_ => (P0_ k_ ∨ w.heap.size ≤ k_))) (by (with_reducible repeat (first | apply Kd.V_alloc | apply Kd.V_drewN | apply Kd.V_drew)); exact HO_0.out) hg hat); have n1_ := Aside0.mk (Kd.V_afterv (ok := (fun k_ => (P0_ k_ ∨ w.heap.size ≤ k_))) (by (with_reducible repeat (first | apply Kd.V_alloc | apply Kd.V_drewN | apply Kd.V_drew)); exact HO105.out) hg hat); have n2_ := Aside0.mk (Kd.V_afterv (ok := (fun k_ => (P0_ k_ ∨ w.heap.size ≤ k_))) (by (with_reducible repeat (first | apply Kd.V_alloc | apply Kd.V_drewN | apply Kd.V_drew)); exact HO111.out) hg hat); have n3_ := Aside0.mk (hb); have n4_ := Aside0.mk (ho); clear HO_0; clear HO105; clear HO111; clear HB; clear HO_5; have HO_0 := n0_; have HO105 := n1_; have HO111 := n2_; have HB := n3_; have HO115 := n4_; clear n0_ n1_ n2_ n3_ n4_; clear ho hb hg hat; have q21 : (x6_2 : Int) ≤ ((x0_1.length : Int) : Int) := of_decide_eq_true (by first | (with_reducible assumption) | assumption); obtain ⟨i021, hi021, _, hsz21, _⟩ := info_parts info9; have hroom21 : x0_1.length ≤ co4 := (Kd.V_reads' HO_0.out).2.1; have hC21 : Kd.F Kd.string _ _ Ao4 x0_1.length x0_1 := (Kd.V_at (base := w.heap.size) HO_0.out).2.2; have q021 : (0 : Int) ≤ (x6_2 : Int) := of_decide_eq_true (by first | (with_reducible assumption) | assumption); have hcut21 := cut_from (P := Try.prog) 24 9 .i64 Try.underlying24 hi021 1 hsz21 Ao4 x0_1.length co4 x6_2 q021 q21; have hr21 := Kd.F_cut (m := (x6_2 : Int).toNat) (c := co4) hC21 (by omega) hroom21; obtain ⟨A21, hA21⟩ : ∃ A1, A1 = (if co4 = (x6_2 : Int).toNat then Ao4 else (Ao4 : Option Addr).map (·.add ((x6_2 : Int).toNat * 1))) := ⟨_, rfl⟩; obtain ⟨c21, hc21⟩ : ∃ c1, c1 = co4 - (x6_2 : Int).toNat := ⟨_, rfl⟩; have hy21 : y116.length = x0_1.length - (x6_2 : Int).toNat := (by rw [Ny116.out, List.length_drop] <;> omega); rw [show (x0_1).drop (x6_2 : Int).toNat = y116 from Ny116.out.symm] at hr21; replace hr21 : Kd.F Kd.string _ _ A21 y116.length y116 := (by rw [hA21]; exact hr21); rw [← hy21, ← hA21, ← hc21] at hcut21; have HO120 := Aside0.mk (show Kd.V Kd.string 9 _ w.heap.size _ (.slice A21 y116.length c21) y116 from Kd.V_mk (by rw [hy21, hc21]; exact Nat.sub_le_sub_right hroom21 _) hr21); have HC120 := Aside0.mk (show y116.length ≤ c21 from by rw [hy21, hc21]; exact Nat.sub_le_sub_right hroom21 _); clear hr21 hC21 hroom21 hi021 hsz21 hc21; have KY21 := Aside0.mk hy21; have KA21 := Aside0.mk hA21; clear hy21 hA21; replace q21 := eq_true q21))
                          go_roundg k2
                          case measure => have := HK1.out; have := HK2.out; omega
                          case rel => exact ⟨(y116), (y113), H', ⟨by have := HK1.out; have := HK2.out; omega⟩, ⟨by (with_reducible repeat (first | apply Kd.V_alloc | apply Kd.V_drewN | apply Kd.V_drew)); exact HO120.out⟩, ⟨by (with_reducible repeat (first | apply Kd.R_alloc | apply Kd.R_drewN | apply Kd.R_drew)); exact HO115.out⟩, ⟨by repeat (first | (with_reducible first | exact HB.out | apply below_alloc | apply pw_below_drewN | apply below_drew1) | exact HB.out)⟩⟩
                        · rw [if_neg c15] at H
                          exact absurd H (by simp)
                      · rw [if_neg c13] at H
                        exact absurd H (by simp)
                    · rw [if_neg c12] at H
                      exact absurd H (by simp)
                · rw [if_neg c8] at H
                  exact absurd H (by simp)
              · rw [if_neg c7] at H
                exact absurd H (by simp)
            · rw [if_neg c5] at H
              have c5b0 : decide (x6_2 < (x0_1.length : Int)) = false := decide_eq_false c5
              clear c5
              by_cases c22 : 0 ≤ x6_2
              · rw [if_pos c22] at H
                have c22b0 := eq_true c22
                have c22b1 : decide (0 ≤ x6_2) = true := decide_eq_true c22
                clear c22
                by_cases c23 : x6_2 ≤ (x0_1.length : Int)
                · rw [if_pos c23] at H
                  have c23b0 := eq_true c23
                  have c23b1 : decide (x6_2 ≤ (x0_1.length : Int)) = true := decide_eq_true c23
                  clear c23
                  obtain ⟨y121, hy121⟩ : ∃ y_ : List ByteArray, y_ = (x0_1.take (x6_2 : Int).toNat) := ⟨_, rfl⟩
                  replace H : ((spec_l13Join.f k2 y121).bind fun t126 => (if x5_1.length < 8796093022208 then (spec_l13Greedy.l0 k2 (x0_1.drop (x6_2 : Int).toNat) a1 (x5_1 ++ [t126])) else (none))) = some r := by first | (rw [hy121]; with_reducible exact H) | (have H2_ := (Option.bind_some _ _).symm.trans H; rw [hy121]; with_reducible exact H2_) | (have H2_ := (Option.bind_some _ _).symm.trans H; with_reducible exact H2_) | with_reducible exact H | (rw [hy121]; exact H) | exact H
                  have Ny121 := Aside0.mk hy121
                  clear hy121
                  replace H := Option.bind_eq_some_iff.mp H
                  obtain ⟨t126, A240, H⟩ := H
                  replace H : (if x5_1.length < 8796093022208 then (spec_l13Greedy.l0 k2 (x0_1.drop (x6_2 : Int).toNat) a1 (x5_1 ++ [t126])) else (none)) = some r := H
                  have A24 := Aside0.mk A240
                  clear A240
                  by_cases c25 : x5_1.length < 8796093022208
                  · rw [if_pos c25] at H
                    have LMc25 := Aside0.mk c25
                    clear c25
                    obtain ⟨y127, hy127⟩ : ∃ y_ : List ByteArray, y_ = (x5_1 ++ [t126]) := ⟨_, rfl⟩
                    replace H : (spec_l13Greedy.l0 k2 (x0_1.drop (x6_2 : Int).toNat) a1 y127) = some r := by first | (rw [hy127]; with_reducible exact H) | (have H2_ := (Option.bind_some _ _).symm.trans H; rw [hy127]; with_reducible exact H2_) | (have H2_ := (Option.bind_some _ _).symm.trans H; with_reducible exact H2_) | with_reducible exact H | (rw [hy127]; exact H) | exact H
                    have Ny127 := Aside0.mk hy127
                    clear hy127
                    have c26b0 := eq_true (of_decide_eq_true (by first | (with_reducible assumption) | assumption) : 0 ≤ x6_2)
                    have c27b0 := eq_true (of_decide_eq_true (by first | (with_reducible assumption) | assumption) : x6_2 ≤ (x0_1.length : Int))
                    obtain ⟨y130, hy130⟩ : ∃ y_ : List ByteArray, y_ = (x0_1.drop (x6_2 : Int).toNat) := ⟨_, rfl⟩
                    replace H : (spec_l13Greedy.l0 k2 y130 a1 y127) = some r := by first | (rw [hy130]; with_reducible exact H) | (have H2_ := (Option.bind_some _ _).symm.trans H; rw [hy130]; with_reducible exact H2_) | (have H2_ := (Option.bind_some _ _).symm.trans H; with_reducible exact H2_) | with_reducible exact H | (rw [hy130]; exact H) | exact H
                    have Ny130 := Aside0.mk hy130
                    clear hy130
                    have H' := Aside0.mk H
                    clear H
                    have q28 : (x6_2 : Int) ≤ ((x0_1.length : Int) : Int) := of_decide_eq_true (by first | (with_reducible assumption) | assumption)
                    obtain ⟨i028, hi028, _, hsz28, _⟩ := info_parts info9
                    have hroom28 : x0_1.length ≤ co4 := (Kd.V_reads' HO_0.out).2.1
                    have hC28 : Kd.F Kd.string _ _ Ao4 x0_1.length x0_1 := (Kd.V_at (base := w.heap.size) HO_0.out).2.2
                    have hcut28 := cut_to (P := Try.prog) 24 9 .i64 Try.underlying24 hi028 Ao4 x0_1.length co4 x6_2 (of_decide_eq_true (by first | (with_reducible assumption) | assumption)) q28 hroom28
                    have hr28 := Kd.F_take (m := (x6_2 : Int).toNat) hC28 (by omega)
                    have hy28 : y121.length = (x6_2 : Int).toNat := (by rw [Ny121.out, List.length_take]; omega)
                    rw [← Ny121.out] at hr28
                    rw [← hy28] at hcut28
                    have HO125 := Aside0.mk (show Kd.V Kd.string 9 _ w.heap.size _ (.slice Ao4 y121.length co4) y121 from Kd.V_mk (by omega) hr28)
                    have HC125 := Aside0.mk (show y121.length ≤ co4 from by omega)
                    clear hr28 hC28 hroom28 hi028 hsz28
                    have KY28 := Aside0.mk hy28
                    clear hy28
                    replace q28 := eq_true q28
                    go_wp2_with (first | ((with_reducible refine gate_callee (f := 55) rfl ?_); refine goesL_ (some 30) rfl rfl Try.func55 (by kernel_rfl) rfl #[.slice Ao4 y121.length co4] rfl (by (try simp only [List.map_toArray, List.map_cons, List.map_nil]); first | done | rfl | (simp only [List.length_drop, List.length_take]; rfl)) ?_; (with_reducible refine (spec_l13Join.calls k2 _ _ y121 t126 _ ?side1 ?side2 A24.out).mono ?_); (case side1 => repeat (first | exact (Kd.V_reads' HO125.out).2.2 | (with_reducible refine Kd.C_alloc ?_ _) | (with_reducible refine Kd.C_drewN ?_ _) | (with_reducible refine Kd.C_drew ?_))); (case side2 => exact (Kd.V_reads' HO125.out).2.1); rintro e w' ⟨rfl, ⟨nd, rfl⟩⟩; refine ⟨_, rfl, ?_⟩) | ((with_reducible refine gate_builtin (b := .append) (xs := #[.tmp 26, .tmp 31]) rfl ?_); (try (refine gate_guard (by rfl) ?_; dsimp only)); at_builtin; refine Kd.R_append Kd.string (w0 := w) w.heap.size rfl (.tmp 26) (.tmp 31) 24 9 (.string ⟨#[]⟩) 16 rfl Try.underlying24 info9 rfl (by decide) (by omega) u5 x5_1 t126 [.string t126] (fun k_ => (w.heap.size ≤ k_)) (fun _ => False) rfl rfl ?aP (fun _ hk => hk.elim) ?aF ?aO ?aB ?aS ?aL ?_; (case aP => exact rfl); (case aB => exact (by repeat (first | (with_reducible first | exact HB.out | apply below_alloc | apply pw_below_drewN | apply below_drew1) | exact HB.out))); (case aF => exact (fun k_ hk => (Nat.le_trans (below_size (by repeat (first | (with_reducible first | exact HB.out | apply below_alloc | apply pw_below_drewN | apply below_drew1) | exact HB.out))) hk))); (case aO => exact (by (with_reducible repeat (first | apply Kd.R_alloc | apply Kd.R_drewN | apply Kd.R_drew)); exact HO_5.out)); (case aS => exact (below_size (by repeat (first | (with_reducible first | exact HB.out | apply below_alloc | apply pw_below_drewN | apply below_drew1) | exact HB.out)))); (case aL => have := LMc25.out; omega); intro v128 w29 ho hb hg hat; rw [← Ny127.out] at ho; have n0_ := Aside0.mk (Kd.V_afterv (ok := (fun k_ => (P0_ k_ ∨ w.heap.size ≤ k_))) (by (with_reducible repeat (first | apply Kd.V_alloc | apply Kd.V_drewN | apply Kd.V_drew)); exact HO_0.out) hg hat); have n1_ := Aside0.mk (Kd.V_afterv (ok := (fun k_ => (P0_ k_ ∨ w.heap.size ≤ k_))) (by (with_reducible repeat (first | apply Kd.V_alloc | apply Kd.V_drewN | apply Kd.V_drew)); exact HO125.out) hg hat); have n2_ := Aside0.mk (hb); have n3_ := Aside0.mk (ho); clear HO_0; clear HO125; clear HB; clear HO_5; have HO_0 := n0_; have HO125 := n1_; have HB := n2_; have HO129 := n3_; clear n0_ n1_ n2_ n3_; clear ho hb hg hat; have q30 : (x6_2 : Int) ≤ ((x0_1.length : Int) : Int) := of_decide_eq_true (by first | (with_reducible assumption) | assumption); obtain ⟨i030, hi030, _, hsz30, _⟩ := info_parts info9; have hroom30 : x0_1.length ≤ co4 := (Kd.V_reads' HO_0.out).2.1; have hC30 : Kd.F Kd.string _ _ Ao4 x0_1.length x0_1 := (Kd.V_at (base := w.heap.size) HO_0.out).2.2; have q030 : (0 : Int) ≤ (x6_2 : Int) := of_decide_eq_true (by first | (with_reducible assumption) | assumption); have hcut30 := cut_from (P := Try.prog) 24 9 .i64 Try.underlying24 hi030 1 hsz30 Ao4 x0_1.length co4 x6_2 q030 q30; have hr30 := Kd.F_cut (m := (x6_2 : Int).toNat) (c := co4) hC30 (by omega) hroom30; obtain ⟨A30, hA30⟩ : ∃ A1, A1 = (if co4 = (x6_2 : Int).toNat then Ao4 else (Ao4 : Option Addr).map (·.add ((x6_2 : Int).toNat * 1))) := ⟨_, rfl⟩; obtain ⟨c30, hc30⟩ : ∃ c1, c1 = co4 - (x6_2 : Int).toNat := ⟨_, rfl⟩; have hy30 : y130.length = x0_1.length - (x6_2 : Int).toNat := (by rw [Ny130.out, List.length_drop] <;> omega); rw [show (x0_1).drop (x6_2 : Int).toNat = y130 from Ny130.out.symm] at hr30; replace hr30 : Kd.F Kd.string _ _ A30 y130.length y130 := (by rw [hA30]; exact hr30); rw [← hy30, ← hA30, ← hc30] at hcut30; have HO134 := Aside0.mk (show Kd.V Kd.string 9 _ w.heap.size _ (.slice A30 y130.length c30) y130 from Kd.V_mk (by rw [hy30, hc30]; exact Nat.sub_le_sub_right hroom30 _) hr30); have HC134 := Aside0.mk (show y130.length ≤ c30 from by rw [hy30, hc30]; exact Nat.sub_le_sub_right hroom30 _); clear hr30 hC30 hroom30 hi030 hsz30 hc30; have KY30 := Aside0.mk hy30; have KA30 := Aside0.mk hA30; clear hy30 hA30; replace q30 := eq_true q30))
                    go_roundg k2
                    case measure => have := HK1.out; have := HK2.out; omega
                    case rel => exact ⟨(y130), (y127), H', ⟨by have := HK1.out; have := HK2.out; omega⟩, ⟨by (with_reducible repeat (first | apply Kd.V_alloc | apply Kd.V_drewN | apply Kd.V_drew)); exact HO134.out⟩, ⟨by (with_reducible repeat (first | apply Kd.R_alloc | apply Kd.R_drewN | apply Kd.R_drew)); exact HO129.out⟩, ⟨by repeat (first | (with_reducible first | exact HB.out | apply below_alloc | apply pw_below_drewN | apply below_drew1) | exact HB.out)⟩⟩
                  · rw [if_neg c25] at H
                    exact absurd H (by simp)
                · rw [if_neg c23] at H
                  exact absurd H (by simp)
              · rw [if_neg c22] at H
                exact absurd H (by simp)
      · rw [if_neg c3] at H
        have c3b0 : decide (0 < (x0_1.length : Int)) = false := decide_eq_false c3
        have c3b1 : decide (0 < x0_1.length) = false := decide_eq_false (by omega)
        clear c3
        obtain rfl := Option.some.inj H
        obtain ⟨Ao31, co31, eo31⟩ := Kd.V_slice HO_0.out
        subst eo31
        go_wp2
        go_ret
        exact ⟨_, by first | rfl | (simp [errW_none, errW_some] <;> rfl) | (simp [*, errW_none, errW_some] <;> rfl), by (with_reducible repeat (first | apply Kd.R_alloc | apply Kd.R_drewN | apply Kd.R_drew)); exact HO_5.out, by repeat (first | (with_reducible first | exact HB.out | apply below_alloc | apply pw_below_drewN | apply below_drew1) | exact HB.out)⟩

end Go.Proofs.Ytdniecpijkhpnaa.X
