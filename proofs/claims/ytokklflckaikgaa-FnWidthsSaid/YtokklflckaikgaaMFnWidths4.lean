/- The law FnWidths of the program: its proof, part 4. -/
import Derived.Test.YtokklflckaikgaaMFnWidths2
import Derived.Test.YtokklflckaikgaaMFnWidths3
import Derived.ProofKit
import Derived.OpenShut
import Derived.ChangeSlices
set_option linter.unusedVariables false
set_option linter.unusedSimpArgs false
namespace Go.Proofs.Ytokklflckaikgaa.X
open Go.RowKit Go.Proofs.YtokklflckaikgaaW.PrintWords Go.Proofs.YtokklflckaikgaaW.PrintLast Go.Proofs.YtokklflckaikgaaW.PrintMore
section
attribute [local go_sem] max2_int min2_int max_two min_two max_three min_three max_four min_four
mutual
def spec_l1Cur_spoilt.l0 : Nat → ByteArray → ByteArray → Int → List Int → Int → Int → Option (ByteArray × Int × Int)
  | 0, _, _, _, _, _, _ => none
  | k + 1, x1, x2, x7, x1000, x1001, x1002 => if x7 > 0 then (spec_l1Cur_spoilt.j1 k x1 x2 x7 (decide ((x1.size : Int) > 0)) x1000 x1001 x1002) else (spec_l1Cur_spoilt.j1 k x1 x2 x7 false x1000 x1001 x1002)
def spec_l1Cur_spoilt.j1 : Nat → ByteArray → ByteArray → Int → Bool → List Int → Int → Int → Option (ByteArray × Int × Int)
  | 0, _, _, _, _, _, _, _ => none
  | k + 1, x1, x2, x7, x18, x1000, x1001, x1002 => if x18 = true then ((spec_l1Cur_pick.f x1000 x1001 x1002 (x1.size : Int)).bind fun bt104 => ((spec_l1Cur_pick.f x1000 bt104.2.1 bt104.2.2 (x2.size : Int)).bind fun bt107 => (if 0 ≤ bt107.1 then (if bt107.1 < (x2.size : Int) then ((some (([bt x2 bt107.1] : List Int) : List Int)).bind fun y110 => ((spec_l1Cur_pick.f x1000 bt107.2.1 bt107.2.2 3).bind fun bt113 => (if bt113.1 = 0 then (if 0 ≤ bt104.1 then (if bt104.1 ≤ (x1.size : Int) then (if (x1.extract 0 (bt104.1 : Int).toNat).size + (strOfNums y110).size ≤ 9223372036854775807 then (if ((x1.extract 0 (bt104.1 : Int).toNat) ++ (strOfNums y110)).size + (x1.extract (bt104.1 : Int).toNat x1.size).size ≤ 9223372036854775807 then (spec_l1Cur_spoilt.l0 k (((x1.extract 0 (bt104.1 : Int).toNat) ++ (strOfNums y110)) ++ (x1.extract (bt104.1 : Int).toNat x1.size)) x2 (wrap64 (x7 - 1)) x1000 bt113.2.1 bt113.2.2) else (none)) else (none)) else (none)) else (none)) else (if bt113.1 = 1 then (if 0 ≤ bt104.1 then (if bt104.1 ≤ (x1.size : Int) then (if (x1.extract 0 (bt104.1 : Int).toNat).size + (strOfNums y110).size ≤ 9223372036854775807 then (if 0 ≤ (wrap64 (bt104.1 + 1)) then (if (wrap64 (bt104.1 + 1)) ≤ (x1.size : Int) then (if ((x1.extract 0 (bt104.1 : Int).toNat) ++ (strOfNums y110)).size + (x1.extract ((wrap64 (bt104.1 + 1)) : Int).toNat x1.size).size ≤ 9223372036854775807 then (spec_l1Cur_spoilt.l0 k (((x1.extract 0 (bt104.1 : Int).toNat) ++ (strOfNums y110)) ++ (x1.extract ((wrap64 (bt104.1 + 1)) : Int).toNat x1.size)) x2 (wrap64 (x7 - 1)) x1000 bt113.2.1 bt113.2.2) else (none)) else (none)) else (none)) else (none)) else (none)) else (none)) else (if 0 ≤ bt104.1 then (if bt104.1 ≤ (x1.size : Int) then (if 0 ≤ (wrap64 (bt104.1 + 1)) then (if (wrap64 (bt104.1 + 1)) ≤ (x1.size : Int) then (if (x1.extract 0 (bt104.1 : Int).toNat).size + (x1.extract ((wrap64 (bt104.1 + 1)) : Int).toNat x1.size).size ≤ 9223372036854775807 then (spec_l1Cur_spoilt.l0 k ((x1.extract 0 (bt104.1 : Int).toNat) ++ (x1.extract ((wrap64 (bt104.1 + 1)) : Int).toNat x1.size)) x2 (wrap64 (x7 - 1)) x1000 bt113.2.1 bt113.2.2) else (none)) else (none)) else (none)) else (none)) else (none)))))) else (none)) else (none)))) else (some (x1, x1001, x1002))
end
def spec_l1Cur_spoilt.f (k : Nat) (s0_0 : List Int) (s0_1 : Int) (s0_2 : Int) (a1 : ByteArray) (a2 : ByteArray) : Option (ByteArray × Int × Int) := (spec_l1Cur_pick.f s0_0 s0_1 s0_2 3).bind fun bt101 => (spec_l1Cur_spoilt.l0 k a1 a2 bt101.1 s0_0 bt101.2.1 bt101.2.2)
set_option maxHeartbeats 8000000 in
set_option maxRecDepth 100000 in
theorem spec_l1Cur_spoilt.calls (k : Nat) (g : Nat) (s0_0 : List Int) (s0_1 : Int) (s0_2 : Int) (a1 : ByteArray) (a2 : ByteArray) (r1 : ByteArray) (r2 : Int) (r3 : Int) (w0 w : World) (hI : IsS55 w0 w g s0_0 s0_1 s0_2) (hB : Below w0.heap.size w0 w) (h : spec_l1Cur_spoilt.f k s0_0 s0_1 s0_2 a1 a2 = some (r1, r2, r3)) :
    Calls Try.prog 61 #[.pointer (some ⟨g, 0, none⟩), .string a1, .string a2] w fun e w' => e = .returned (.string r1) ∧ IsS55 w0 w' g s0_0 r2 r3 ∧ Below w0.heap.size w0 w' ∧ KeepBut w w' g none := by
  have HI0 := mz hI
  have HK := mz (KeepBut.refl w g none)
  have HL := mz hB.size
  clear hI
  have HW0 := mz hB.size
  have HB := mz hB
  clear hB
  have H : ((spec_l1Cur_pick.f s0_0 s0_1 s0_2 3).bind fun bt101 => (spec_l1Cur_spoilt.l0 k a1 a2 bt101.1 s0_0 bt101.2.1 bt101.2.2)) = some (r1, r2, r3) := h
  clear h
  replace H := be0_ H
  obtain ⟨⟨t101, t102, t103⟩, A40, H⟩ := H
  replace H : (spec_l1Cur_spoilt.l0 k a1 a2 t101 s0_0 t102 t103) = some (r1, r2, r3) := H
  have A4 := mz A40
  clear A40
  have H' := mz H
  clear H
  go_enter Try.func61, Try.ntmps61
  go_wp2_with (first | (go_at_call 29; (with_reducible refine (spec_l1Cur_pick.calls g s0_0 s0_1 s0_2 3 t101 t102 t103 w0 _ ?side1 ?side2 A4.out).mono ?_); (case side1 => repeat (first | (with_reducible first | exact HI0.out | apply IsS55.alloc | apply IsS55.drewN | apply IsS55.drew | apply IsS55.set_1 | apply IsS55.set_2) | exact HI0.out)); (case side2 => repeat (first | (with_reducible first | exact HB.out | apply below_alloc | apply pw_below_drewN | apply below_drew1 | refine below_set ?_ (IsS55.ge HI0.out)) | exact HB.out)); rintro e w5 ⟨rfl, hi, hb, hk⟩; have n0_ := mz (KeepBut.trans (by repeat (first | (with_reducible first | exact HK.out | apply KeepBut.set_ | apply keep_drewN | apply keep_drew | apply keep_alloc) | exact HK.out)) hk (.inl rfl)); have n1_ := mz (hb); have n2_ := mz (hi); clear HK; clear HB; clear HI0; have HK := n0_; have HB := n1_; have HI0 := n2_; clear n0_ n1_ n2_; (try clear hb); (try clear hb2); (try clear hk); (try clear hi)))
  repeat (go_quiet (first | (go_at_call 29; (with_reducible refine (spec_l1Cur_pick.calls g s0_0 s0_1 s0_2 3 t101 t102 t103 w0 _ ?side1 ?side2 A4.out).mono ?_); (case side1 => repeat (first | (with_reducible first | exact HI0.out | apply IsS55.alloc | apply IsS55.drewN | apply IsS55.drew | apply IsS55.set_1 | apply IsS55.set_2) | exact HI0.out)); (case side2 => repeat (first | (with_reducible first | exact HB.out | apply below_alloc | apply pw_below_drewN | apply below_drew1 | refine below_set ?_ (IsS55.ge HI0.out)) | exact HB.out)); rintro e w5 ⟨rfl, hi, hb, hk⟩; have n0_ := mz (KeepBut.trans (by repeat (first | (with_reducible first | exact HK.out | apply KeepBut.set_ | apply keep_drewN | apply keep_drew | apply keep_alloc) | exact HK.out)) hk (.inl rfl)); have n1_ := mz (hb); have n2_ := mz (hi); clear HK; clear HB; clear HI0; have HK := n0_; have HB := n1_; have HI0 := n2_; clear n0_ n1_ n2_; (try clear hb); (try clear hb2); (try clear hk); (try clear hi))); try go_wp2_with (first | (go_at_call 29; (with_reducible refine (spec_l1Cur_pick.calls g s0_0 s0_1 s0_2 3 t101 t102 t103 w0 _ ?side1 ?side2 A4.out).mono ?_); (case side1 => repeat (first | (with_reducible first | exact HI0.out | apply IsS55.alloc | apply IsS55.drewN | apply IsS55.drew | apply IsS55.set_1 | apply IsS55.set_2) | exact HI0.out)); (case side2 => repeat (first | (with_reducible first | exact HB.out | apply below_alloc | apply pw_below_drewN | apply below_drew1 | refine below_set ?_ (IsS55.ge HI0.out)) | exact HB.out)); rintro e w5 ⟨rfl, hi, hb, hk⟩; have n0_ := mz (KeepBut.trans (by repeat (first | (with_reducible first | exact HK.out | apply KeepBut.set_ | apply keep_drewN | apply keep_drew | apply keep_alloc) | exact HK.out)) hk (.inl rfl)); have n1_ := mz (hb); have n2_ := mz (hi); clear HK; clear HB; clear HI0; have HK := n0_; have HB := n1_; have HI0 := n2_; clear n0_ n1_ n2_; (try clear hb); (try clear hb2); (try clear hk); (try clear hi))))
  go_loopg [1, 7] k (fun kq v1 v7 w' => ∃ (x1_1 : ByteArray) (x7_1 : Int) (x1001_1 : Int) (x1002_1 : Int), v1 = .string x1_1 ∧ v7 = .int .i64 x7_1 ∧ Aside0 (spec_l1Cur_spoilt.l0 kq x1_1 a2 x7_1 s0_0 x1001_1 x1002_1 = some (r1, r2, r3)) ∧ Aside0 (kq ≤ k) ∧ Aside0 (IsS55 w0 w' g s0_0 x1001_1 x1002_1) ∧ Aside0 (KeepBut w w' g none) ∧ Aside0 (Below w0.heap.size w0 w'))
  case atStart => exact ⟨(a1), (t101), (t102), (t103), (by first | rfl | (simp; done) | (simp [*]; done)), (by first | rfl | (simp; done) | (simp [*]; done)), H', ⟨Nat.le_refl _⟩, ⟨by repeat (first | (with_reducible first | exact HI0.out | apply IsS55.alloc | apply IsS55.drewN | apply IsS55.drew | apply IsS55.set_1 | apply IsS55.set_2) | exact HI0.out)⟩, ⟨by repeat (first | (with_reducible first | exact HK.out | apply KeepBut.set_ | apply keep_drewN | apply keep_drew | apply keep_alloc) | exact HK.out)⟩, ⟨by repeat (first | (with_reducible first | exact HB.out | apply below_alloc | apply pw_below_drewN | apply below_drew1 | refine below_set ?_ (IsS55.ge HI0.out)) | exact HB.out)⟩⟩
  case round =>
    clear H'
    try clear p2
    obtain ⟨x1_1, x7_1, x1001_1, x1002_1, rfl, rfl, HA, HK1, HI0, HK, HB⟩ := hrel
    cases gk with
    | zero => exact absurd HA.out (by simp [spec_l1Cur_spoilt.l0])
    | succ k1 =>
      have H := HA.out
      clear HA
      simp only [spec_l1Cur_spoilt.l0] at H
      have HC6 := mz H
      clear H
      go_upto_region 2 with (fail)
      repeat (go_quiet (fail); go_upto_region 2 with (fail))
      go_cut [18] (fun v18 wc => ∃ (kq : Nat) (x18_5 : Bool), v18 = .bool x18_5 ∧ Aside0 (spec_l1Cur_spoilt.j1 kq x1_1 a2 x7_1 x18_5 s0_0 x1001_1 x1002_1 = some (r1, r2, r3)) ∧ Aside0 (kq ≤ k1) ∧ Aside0 (IsS55 w0 wc g s0_0 x1001_1 x1002_1) ∧ Aside0 (KeepBut w wc g none) ∧ Aside0 (Below w0.heap.size w0 wc))
      case first =>
        have H := HC6.out
        clear HC6
        by_cases c7 : x7_1 > 0
        · rw [if_pos c7] at H
          have c7b0 : decide (0 < x7_1) = true := decide_eq_true c7
          clear c7
          (first | rw [c7b0] | (simp only [i64_w, i32_w]; rw [c7b0]) | skip)
          have H' := mz H
          clear H
          go_wp2
          repeat (go_quiet (fail); try go_wp2)
          go_meet
          case rel => exact ⟨_, (decide ((x1_1.size : Int) > 0)), (by first | rfl | (simp; done) | (simp [*]; done)), H', ⟨by have := HK1.out; first | omega | exact Nat.le_refl _⟩, ⟨by repeat (first | (with_reducible first | exact HI0.out | apply IsS55.alloc | apply IsS55.drewN | apply IsS55.drew | apply IsS55.set_1 | apply IsS55.set_2) | exact HI0.out)⟩, ⟨by repeat (first | (with_reducible first | exact HK.out | apply KeepBut.set_ | apply keep_drewN | apply keep_drew | apply keep_alloc) | exact HK.out)⟩, ⟨by repeat (first | (with_reducible first | exact HB.out | apply below_alloc | apply pw_below_drewN | apply below_drew1 | refine below_set ?_ (IsS55.ge HI0.out)) | exact HB.out)⟩⟩
        · rw [if_neg c7] at H
          have c7b0 : decide (0 < x7_1) = false := decide_eq_false c7
          clear c7
          (first | rw [c7b0] | (simp only [i64_w, i32_w]; rw [c7b0]) | skip)
          have H' := mz H
          clear H
          go_wp2
          repeat (go_quiet (fail); try go_wp2)
          go_meet
          case rel => exact ⟨_, (false), (by first | rfl | (simp; done) | (simp [*]; done)), H', ⟨by have := HK1.out; first | omega | exact Nat.le_refl _⟩, ⟨by repeat (first | (with_reducible first | exact HI0.out | apply IsS55.alloc | apply IsS55.drewN | apply IsS55.drew | apply IsS55.set_1 | apply IsS55.set_2) | exact HI0.out)⟩, ⟨by repeat (first | (with_reducible first | exact HK.out | apply KeepBut.set_ | apply keep_drewN | apply keep_drew | apply keep_alloc) | exact HK.out)⟩, ⟨by repeat (first | (with_reducible first | exact HB.out | apply below_alloc | apply pw_below_drewN | apply below_drew1 | refine below_set ?_ (IsS55.ge HI0.out)) | exact HB.out)⟩⟩
      case rest =>
        clear HC6
        try clear p2
        try clear c6
        try clear c7
        try clear c7b0
        try clear p2
        obtain ⟨kq, x18_5, rfl, HA, HJ5, HI0, HK, HB⟩ := hcut
        cases kq with
        | zero => exact absurd HA.out (by simp [spec_l1Cur_spoilt.j1])
        | succ kj5 =>
          have H := HA.out
          clear HA
          simp only [spec_l1Cur_spoilt.j1] at H
          by_cases c8 : x18_5 = true
          · subst c8
            have H1 : ((spec_l1Cur_pick.f s0_0 x1001_1 x1002_1 (x1_1.size : Int)).bind fun bt104 => ((spec_l1Cur_pick.f s0_0 bt104.2.1 bt104.2.2 (a2.size : Int)).bind fun bt107 => (if 0 ≤ bt107.1 then (if bt107.1 < (a2.size : Int) then ((some (([bt a2 bt107.1] : List Int) : List Int)).bind fun y110 => ((spec_l1Cur_pick.f s0_0 bt107.2.1 bt107.2.2 3).bind fun bt113 => (if bt113.1 = 0 then (if 0 ≤ bt104.1 then (if bt104.1 ≤ (x1_1.size : Int) then (if (x1_1.extract 0 (bt104.1 : Int).toNat).size + (strOfNums y110).size ≤ 9223372036854775807 then (if ((x1_1.extract 0 (bt104.1 : Int).toNat) ++ (strOfNums y110)).size + (x1_1.extract (bt104.1 : Int).toNat x1_1.size).size ≤ 9223372036854775807 then (spec_l1Cur_spoilt.l0 kj5 (((x1_1.extract 0 (bt104.1 : Int).toNat) ++ (strOfNums y110)) ++ (x1_1.extract (bt104.1 : Int).toNat x1_1.size)) a2 (wrap64 (x7_1 - 1)) s0_0 bt113.2.1 bt113.2.2) else (none)) else (none)) else (none)) else (none)) else (if bt113.1 = 1 then (if 0 ≤ bt104.1 then (if bt104.1 ≤ (x1_1.size : Int) then (if (x1_1.extract 0 (bt104.1 : Int).toNat).size + (strOfNums y110).size ≤ 9223372036854775807 then (if 0 ≤ (wrap64 (bt104.1 + 1)) then (if (wrap64 (bt104.1 + 1)) ≤ (x1_1.size : Int) then (if ((x1_1.extract 0 (bt104.1 : Int).toNat) ++ (strOfNums y110)).size + (x1_1.extract ((wrap64 (bt104.1 + 1)) : Int).toNat x1_1.size).size ≤ 9223372036854775807 then (spec_l1Cur_spoilt.l0 kj5 (((x1_1.extract 0 (bt104.1 : Int).toNat) ++ (strOfNums y110)) ++ (x1_1.extract ((wrap64 (bt104.1 + 1)) : Int).toNat x1_1.size)) a2 (wrap64 (x7_1 - 1)) s0_0 bt113.2.1 bt113.2.2) else (none)) else (none)) else (none)) else (none)) else (none)) else (none)) else (if 0 ≤ bt104.1 then (if bt104.1 ≤ (x1_1.size : Int) then (if 0 ≤ (wrap64 (bt104.1 + 1)) then (if (wrap64 (bt104.1 + 1)) ≤ (x1_1.size : Int) then (if (x1_1.extract 0 (bt104.1 : Int).toNat).size + (x1_1.extract ((wrap64 (bt104.1 + 1)) : Int).toNat x1_1.size).size ≤ 9223372036854775807 then (spec_l1Cur_spoilt.l0 kj5 ((x1_1.extract 0 (bt104.1 : Int).toNat) ++ (x1_1.extract ((wrap64 (bt104.1 + 1)) : Int).toNat x1_1.size)) a2 (wrap64 (x7_1 - 1)) s0_0 bt113.2.1 bt113.2.2) else (none)) else (none)) else (none)) else (none)) else (none)))))) else (none)) else (none)))) = some (r1, r2, r3) := by rw [if_pos rfl] at H; exact H
            clear H
            have H := H1
            clear H1
            replace H := be0_ H
            obtain ⟨⟨t104, t105, t106⟩, A90, H⟩ := H
            replace H : ((spec_l1Cur_pick.f s0_0 t105 t106 (a2.size : Int)).bind fun bt107 => (if 0 ≤ bt107.1 then (if bt107.1 < (a2.size : Int) then ((some (([bt a2 bt107.1] : List Int) : List Int)).bind fun y110 => ((spec_l1Cur_pick.f s0_0 bt107.2.1 bt107.2.2 3).bind fun bt113 => (if bt113.1 = 0 then (if 0 ≤ t104 then (if t104 ≤ (x1_1.size : Int) then (if (x1_1.extract 0 (t104 : Int).toNat).size + (strOfNums y110).size ≤ 9223372036854775807 then (if ((x1_1.extract 0 (t104 : Int).toNat) ++ (strOfNums y110)).size + (x1_1.extract (t104 : Int).toNat x1_1.size).size ≤ 9223372036854775807 then (spec_l1Cur_spoilt.l0 kj5 (((x1_1.extract 0 (t104 : Int).toNat) ++ (strOfNums y110)) ++ (x1_1.extract (t104 : Int).toNat x1_1.size)) a2 (wrap64 (x7_1 - 1)) s0_0 bt113.2.1 bt113.2.2) else (none)) else (none)) else (none)) else (none)) else (if bt113.1 = 1 then (if 0 ≤ t104 then (if t104 ≤ (x1_1.size : Int) then (if (x1_1.extract 0 (t104 : Int).toNat).size + (strOfNums y110).size ≤ 9223372036854775807 then (if 0 ≤ (wrap64 (t104 + 1)) then (if (wrap64 (t104 + 1)) ≤ (x1_1.size : Int) then (if ((x1_1.extract 0 (t104 : Int).toNat) ++ (strOfNums y110)).size + (x1_1.extract ((wrap64 (t104 + 1)) : Int).toNat x1_1.size).size ≤ 9223372036854775807 then (spec_l1Cur_spoilt.l0 kj5 (((x1_1.extract 0 (t104 : Int).toNat) ++ (strOfNums y110)) ++ (x1_1.extract ((wrap64 (t104 + 1)) : Int).toNat x1_1.size)) a2 (wrap64 (x7_1 - 1)) s0_0 bt113.2.1 bt113.2.2) else (none)) else (none)) else (none)) else (none)) else (none)) else (none)) else (if 0 ≤ t104 then (if t104 ≤ (x1_1.size : Int) then (if 0 ≤ (wrap64 (t104 + 1)) then (if (wrap64 (t104 + 1)) ≤ (x1_1.size : Int) then (if (x1_1.extract 0 (t104 : Int).toNat).size + (x1_1.extract ((wrap64 (t104 + 1)) : Int).toNat x1_1.size).size ≤ 9223372036854775807 then (spec_l1Cur_spoilt.l0 kj5 ((x1_1.extract 0 (t104 : Int).toNat) ++ (x1_1.extract ((wrap64 (t104 + 1)) : Int).toNat x1_1.size)) a2 (wrap64 (x7_1 - 1)) s0_0 bt113.2.1 bt113.2.2) else (none)) else (none)) else (none)) else (none)) else (none)))))) else (none)) else (none))) = some (r1, r2, r3) := H
            have A9 := mz A90
            clear A90
            replace H := be0_ H
            obtain ⟨⟨t107, t108, t109⟩, A100, H⟩ := H
            replace H : (if 0 ≤ t107 then (if t107 < (a2.size : Int) then ((some (([bt a2 t107] : List Int) : List Int)).bind fun y110 => ((spec_l1Cur_pick.f s0_0 t108 t109 3).bind fun bt113 => (if bt113.1 = 0 then (if 0 ≤ t104 then (if t104 ≤ (x1_1.size : Int) then (if (x1_1.extract 0 (t104 : Int).toNat).size + (strOfNums y110).size ≤ 9223372036854775807 then (if ((x1_1.extract 0 (t104 : Int).toNat) ++ (strOfNums y110)).size + (x1_1.extract (t104 : Int).toNat x1_1.size).size ≤ 9223372036854775807 then (spec_l1Cur_spoilt.l0 kj5 (((x1_1.extract 0 (t104 : Int).toNat) ++ (strOfNums y110)) ++ (x1_1.extract (t104 : Int).toNat x1_1.size)) a2 (wrap64 (x7_1 - 1)) s0_0 bt113.2.1 bt113.2.2) else (none)) else (none)) else (none)) else (none)) else (if bt113.1 = 1 then (if 0 ≤ t104 then (if t104 ≤ (x1_1.size : Int) then (if (x1_1.extract 0 (t104 : Int).toNat).size + (strOfNums y110).size ≤ 9223372036854775807 then (if 0 ≤ (wrap64 (t104 + 1)) then (if (wrap64 (t104 + 1)) ≤ (x1_1.size : Int) then (if ((x1_1.extract 0 (t104 : Int).toNat) ++ (strOfNums y110)).size + (x1_1.extract ((wrap64 (t104 + 1)) : Int).toNat x1_1.size).size ≤ 9223372036854775807 then (spec_l1Cur_spoilt.l0 kj5 (((x1_1.extract 0 (t104 : Int).toNat) ++ (strOfNums y110)) ++ (x1_1.extract ((wrap64 (t104 + 1)) : Int).toNat x1_1.size)) a2 (wrap64 (x7_1 - 1)) s0_0 bt113.2.1 bt113.2.2) else (none)) else (none)) else (none)) else (none)) else (none)) else (none)) else (if 0 ≤ t104 then (if t104 ≤ (x1_1.size : Int) then (if 0 ≤ (wrap64 (t104 + 1)) then (if (wrap64 (t104 + 1)) ≤ (x1_1.size : Int) then (if (x1_1.extract 0 (t104 : Int).toNat).size + (x1_1.extract ((wrap64 (t104 + 1)) : Int).toNat x1_1.size).size ≤ 9223372036854775807 then (spec_l1Cur_spoilt.l0 kj5 ((x1_1.extract 0 (t104 : Int).toNat) ++ (x1_1.extract ((wrap64 (t104 + 1)) : Int).toNat x1_1.size)) a2 (wrap64 (x7_1 - 1)) s0_0 bt113.2.1 bt113.2.2) else (none)) else (none)) else (none)) else (none)) else (none)))))) else (none)) else (none)) = some (r1, r2, r3) := H
            have A10 := mz A100
            clear A100
            by_cases c11 : 0 ≤ t107
            · rw [if_pos c11] at H
              have c11b0 : decide (0 ≤ t107) = true := decide_eq_true c11
              clear c11
              by_cases c12 : t107 < (a2.size : Int)
              · rw [if_pos c12] at H
                have c12b0 : decide (t107 < (a2.size : Int)) = true := decide_eq_true c12
                clear c12
                obtain ⟨y110, hy110⟩ : ∃ y_ : List Int, y_ = (([bt a2 t107] : List Int)) := ⟨_, rfl⟩
                replace H : ((spec_l1Cur_pick.f s0_0 t108 t109 3).bind fun bt113 => (if bt113.1 = 0 then (if 0 ≤ t104 then (if t104 ≤ (x1_1.size : Int) then (if (x1_1.extract 0 (t104 : Int).toNat).size + (strOfNums y110).size ≤ 9223372036854775807 then (if ((x1_1.extract 0 (t104 : Int).toNat) ++ (strOfNums y110)).size + (x1_1.extract (t104 : Int).toNat x1_1.size).size ≤ 9223372036854775807 then (spec_l1Cur_spoilt.l0 kj5 (((x1_1.extract 0 (t104 : Int).toNat) ++ (strOfNums y110)) ++ (x1_1.extract (t104 : Int).toNat x1_1.size)) a2 (wrap64 (x7_1 - 1)) s0_0 bt113.2.1 bt113.2.2) else (none)) else (none)) else (none)) else (none)) else (if bt113.1 = 1 then (if 0 ≤ t104 then (if t104 ≤ (x1_1.size : Int) then (if (x1_1.extract 0 (t104 : Int).toNat).size + (strOfNums y110).size ≤ 9223372036854775807 then (if 0 ≤ (wrap64 (t104 + 1)) then (if (wrap64 (t104 + 1)) ≤ (x1_1.size : Int) then (if ((x1_1.extract 0 (t104 : Int).toNat) ++ (strOfNums y110)).size + (x1_1.extract ((wrap64 (t104 + 1)) : Int).toNat x1_1.size).size ≤ 9223372036854775807 then (spec_l1Cur_spoilt.l0 kj5 (((x1_1.extract 0 (t104 : Int).toNat) ++ (strOfNums y110)) ++ (x1_1.extract ((wrap64 (t104 + 1)) : Int).toNat x1_1.size)) a2 (wrap64 (x7_1 - 1)) s0_0 bt113.2.1 bt113.2.2) else (none)) else (none)) else (none)) else (none)) else (none)) else (none)) else (if 0 ≤ t104 then (if t104 ≤ (x1_1.size : Int) then (if 0 ≤ (wrap64 (t104 + 1)) then (if (wrap64 (t104 + 1)) ≤ (x1_1.size : Int) then (if (x1_1.extract 0 (t104 : Int).toNat).size + (x1_1.extract ((wrap64 (t104 + 1)) : Int).toNat x1_1.size).size ≤ 9223372036854775807 then (spec_l1Cur_spoilt.l0 kj5 ((x1_1.extract 0 (t104 : Int).toNat) ++ (x1_1.extract ((wrap64 (t104 + 1)) : Int).toNat x1_1.size)) a2 (wrap64 (x7_1 - 1)) s0_0 bt113.2.1 bt113.2.2) else (none)) else (none)) else (none)) else (none)) else (none))))) = some (r1, r2, r3) := by first | (rw [hy110]; with_reducible exact H) | (have H2_ := (Option.bind_some _ _).symm.trans H; rw [hy110]; with_reducible exact H2_) | (have H2_ := (Option.bind_some _ _).symm.trans H; with_reducible exact H2_) | with_reducible exact H | (rw [hy110]; exact H) | exact H
                have Ny110 := mz hy110
                clear hy110
                replace H := be0_ H
                obtain ⟨⟨t113, t114, t115⟩, A140, H⟩ := H
                replace H : (if t113 = 0 then (if 0 ≤ t104 then (if t104 ≤ (x1_1.size : Int) then (if (x1_1.extract 0 (t104 : Int).toNat).size + (strOfNums y110).size ≤ 9223372036854775807 then (if ((x1_1.extract 0 (t104 : Int).toNat) ++ (strOfNums y110)).size + (x1_1.extract (t104 : Int).toNat x1_1.size).size ≤ 9223372036854775807 then (spec_l1Cur_spoilt.l0 kj5 (((x1_1.extract 0 (t104 : Int).toNat) ++ (strOfNums y110)) ++ (x1_1.extract (t104 : Int).toNat x1_1.size)) a2 (wrap64 (x7_1 - 1)) s0_0 t114 t115) else (none)) else (none)) else (none)) else (none)) else (if t113 = 1 then (if 0 ≤ t104 then (if t104 ≤ (x1_1.size : Int) then (if (x1_1.extract 0 (t104 : Int).toNat).size + (strOfNums y110).size ≤ 9223372036854775807 then (if 0 ≤ (wrap64 (t104 + 1)) then (if (wrap64 (t104 + 1)) ≤ (x1_1.size : Int) then (if ((x1_1.extract 0 (t104 : Int).toNat) ++ (strOfNums y110)).size + (x1_1.extract ((wrap64 (t104 + 1)) : Int).toNat x1_1.size).size ≤ 9223372036854775807 then (spec_l1Cur_spoilt.l0 kj5 (((x1_1.extract 0 (t104 : Int).toNat) ++ (strOfNums y110)) ++ (x1_1.extract ((wrap64 (t104 + 1)) : Int).toNat x1_1.size)) a2 (wrap64 (x7_1 - 1)) s0_0 t114 t115) else (none)) else (none)) else (none)) else (none)) else (none)) else (none)) else (if 0 ≤ t104 then (if t104 ≤ (x1_1.size : Int) then (if 0 ≤ (wrap64 (t104 + 1)) then (if (wrap64 (t104 + 1)) ≤ (x1_1.size : Int) then (if (x1_1.extract 0 (t104 : Int).toNat).size + (x1_1.extract ((wrap64 (t104 + 1)) : Int).toNat x1_1.size).size ≤ 9223372036854775807 then (spec_l1Cur_spoilt.l0 kj5 ((x1_1.extract 0 (t104 : Int).toNat) ++ (x1_1.extract ((wrap64 (t104 + 1)) : Int).toNat x1_1.size)) a2 (wrap64 (x7_1 - 1)) s0_0 t114 t115) else (none)) else (none)) else (none)) else (none)) else (none)))) = some (r1, r2, r3) := H
                have A14 := mz A140
                clear A140
                by_cases c15 : t113 = 0
                · rw [if_pos c15] at H
                  have c15b0 : (t113 == 0) = true := beq_iff_eq.mpr c15
                  have c15b1 : (t113 != 0) = false := bne_eq_false_iff_eq.mpr c15
                  clear c15
                  by_cases c16 : 0 ≤ t104
                  · rw [if_pos c16] at H
                    have c16b0 := eq_true c16
                    have c16b1 : decide (0 ≤ t104) = true := decide_eq_true c16
                    clear c16
                    by_cases c17 : t104 ≤ (x1_1.size : Int)
                    · rw [if_pos c17] at H
                      have c17b0 := eq_true c17
                      have c17b1 : decide (t104 ≤ (x1_1.size : Int)) = true := decide_eq_true c17
                      clear c17
                      by_cases c18 : (x1_1.extract 0 (t104 : Int).toNat).size + (strOfNums y110).size ≤ 9223372036854775807
                      · rw [if_pos c18] at H
                        have c18b0 := eq_true c18
                        have c18b1 : decide ((x1_1.extract 0 (t104 : Int).toNat).size + (strOfNums y110).size ≤ 9223372036854775807) = true := decide_eq_true c18
                        try have c18b2 : (9223372036854775807 < (x1_1.extract 0 (t104 : Int).toNat).size + (strOfNums y110).size) = False := eq_false (Nat.not_lt.2 c18)
                        have c19b0 := eq_true (of_decide_eq_true (by first | (with_reducible assumption) | assumption) : 0 ≤ t104)
                        have c20b0 := eq_true (of_decide_eq_true (by first | (with_reducible assumption) | assumption) : t104 ≤ (x1_1.size : Int))
                        by_cases c21 : ((x1_1.extract 0 (t104 : Int).toNat) ++ (strOfNums y110)).size + (x1_1.extract (t104 : Int).toNat x1_1.size).size ≤ 9223372036854775807
                        · rw [if_pos c21] at H
                          have c21b0 := eq_true c21
                          have c21b1 : decide (((x1_1.extract 0 (t104 : Int).toNat) ++ (strOfNums y110)).size + (x1_1.extract (t104 : Int).toNat x1_1.size).size ≤ 9223372036854775807) = true := decide_eq_true c21
                          try have c21b2 : (9223372036854775807 < ((x1_1.extract 0 (t104 : Int).toNat) ++ (strOfNums y110)).size + (x1_1.extract (t104 : Int).toNat x1_1.size).size) = False := eq_false (Nat.not_lt.2 c21)
                          try have c21b3 := c21b2
                          try simp only [ByteArray.size_append] at c21b3
                          have H' := mz H
                          clear H
                          go_wp2_with (first | (go_at_call 29; (with_reducible refine (spec_l1Cur_pick.calls g s0_0 x1001_1 x1002_1 (x1_1.size : Int) t104 t105 t106 w0 _ ?side1 ?side2 A9.out).mono ?_); (case side1 => repeat (first | (with_reducible first | exact HI0.out | apply IsS55.alloc | apply IsS55.drewN | apply IsS55.drew | apply IsS55.set_1 | apply IsS55.set_2) | exact HI0.out)); (case side2 => repeat (first | (with_reducible first | exact HB.out | apply below_alloc | apply pw_below_drewN | apply below_drew1 | refine below_set ?_ (IsS55.ge HI0.out)) | exact HB.out)); rintro e w22 ⟨rfl, hi, hb, hk⟩; have n0_ := mz (KeepBut.trans (by repeat (first | (with_reducible first | exact HK.out | apply KeepBut.set_ | apply keep_drewN | apply keep_drew | apply keep_alloc) | exact HK.out)) hk (.inl rfl)); have n1_ := mz (hb); have n2_ := mz (hi); clear HK; clear HB; clear HI0; have HK := n0_; have HB := n1_; have HI0 := n2_; clear n0_ n1_ n2_; (try clear hb); (try clear hb2); (try clear hk); (try clear hi)) | (go_at_call 29; (with_reducible refine (spec_l1Cur_pick.calls g s0_0 t105 t106 (a2.size : Int) t107 t108 t109 w0 _ ?side1 ?side2 A10.out).mono ?_); (case side1 => repeat (first | (with_reducible first | exact HI0.out | apply IsS55.alloc | apply IsS55.drewN | apply IsS55.drew | apply IsS55.set_1 | apply IsS55.set_2) | exact HI0.out)); (case side2 => repeat (first | (with_reducible first | exact HB.out | apply below_alloc | apply pw_below_drewN | apply below_drew1 | refine below_set ?_ (IsS55.ge HI0.out)) | exact HB.out)); rintro e w23 ⟨rfl, hi, hb, hk⟩; have n0_ := mz (KeepBut.trans (by repeat (first | (with_reducible first | exact HK.out | apply KeepBut.set_ | apply keep_drewN | apply keep_drew | apply keep_alloc) | exact HK.out)) hk (.inl rfl)); have n1_ := mz (hb); have n2_ := mz (hi); clear HK; clear HB; clear HI0; have HK := n0_; have HB := n1_; have HI0 := n2_; clear n0_ n1_ n2_; (try clear hb); (try clear hb2); (try clear hk); (try clear hi); have p13 : 0 ≤ (t107 : Int) := of_decide_eq_true (by first | (with_reducible assumption) | assumption); have q13 : t107 < (a2.size : Int) := of_decide_eq_true (by first | (with_reducible assumption) | assumption); have hx13 := bt_at a2 t107; replace p13 := eq_true p13; replace q13 := eq_true q13) | ((with_reducible refine gate_dst (N := 31) rfl ?_); (try (refine gate_guard (by rfl) ?_; dsimp only)); refine Kd.R_lit (Kd.int .u8) _ 5 ?hg (N := 31) ?hd (xs := ([bt a2 t107] : List Int)) (inner := [.int .u8 (bt a2 t107)]) (ok := fun _ => True) (okp := fun _ => True) ?hr ?hp (fun _ hk => hk) trivial (Below.refl _ _) (Nat.le_refl _) (by simp) ?_; (case hd => rfl); (case hg => rfl); (case hr => first | (go_simp; done) | (go_simp; rfl)); (case hp => exact (Reps.one (show Kd.M (Kd.int .u8) _ _ _ (bt a2 t107) [.int .u8 (bt a2 t107)] from rfl) (Reps.none _ _))); intro v111 w24 ho25 hb hg_ hnew_; clear hg_ hnew_; (first | rw [← Ny110.out] at ho25 | (simp only [Int.reduceToNat] at ho25; rw [← Ny110.out] at ho25)); have n0_ := mz (Kd.R_lower ho25 (keep_size (w := w) (g := g) (row := none) (by repeat (first | (with_reducible first | exact HK.out | apply KeepBut.set_ | apply keep_drewN | apply keep_drew | apply keep_alloc) | exact HK.out)))); have n1_ := mz (IsS55.below (by repeat (first | (with_reducible first | exact HI0.out | apply IsS55.alloc | apply IsS55.drewN | apply IsS55.drew | apply IsS55.set_1 | apply IsS55.set_2) | exact HI0.out)) hb); have n2_ := mz (KeepBut.trans (by repeat (first | (with_reducible first | exact HK.out | apply KeepBut.set_ | apply keep_drewN | apply keep_drew | apply keep_alloc) | exact HK.out)) (KeepBut.of_below hb g none) (.inl rfl)); have n3_ := mz (below_step (by repeat (first | (with_reducible first | exact HB.out | apply below_alloc | apply pw_below_drewN | apply below_drew1 | refine below_set ?_ (IsS55.ge HI0.out)) | exact HB.out)) hb); clear HI0; clear HK; clear HB; have HO112 := n0_; have HI0 := n1_; have HK := n2_; have HB := n3_; clear n0_ n1_ n2_ n3_; clear hb ho25; have hcv26 := own_string (P := Try.prog) Try.underlying22 Try.underlying5 Try.underlying9 (Kd.own_of_R HO112.out)) | (go_at_call 29; (with_reducible refine (spec_l1Cur_pick.calls g s0_0 t108 t109 3 t113 t114 t115 w0 _ ?side1 ?side2 A14.out).mono ?_); (case side1 => repeat (first | (with_reducible first | exact HI0.out | apply IsS55.alloc | apply IsS55.drewN | apply IsS55.drew | apply IsS55.set_1 | apply IsS55.set_2) | exact HI0.out)); (case side2 => repeat (first | (with_reducible first | exact HB.out | apply below_alloc | apply pw_below_drewN | apply below_drew1 | refine below_set ?_ (IsS55.ge HI0.out)) | exact HB.out)); rintro e w27 ⟨rfl, hi, hb, hk⟩; have n0_ := mz (Kd.R_mono (Kd.R_keep (IsS55.apart (show IsS55 w0 _ g s0_0 t108 t109 from by repeat (first | (with_reducible first | exact HI0.out | apply IsS55.alloc | apply IsS55.drewN | apply IsS55.drew | apply IsS55.set_1 | apply IsS55.set_2) | exact HI0.out)) (by (with_reducible repeat (first | apply Kd.R_alloc | apply Kd.R_drewN | apply Kd.R_drew)); exact HO112.out) (by decide)) hk (fun _ h => h.2)) (fun _ h => h.1)); have n1_ := mz (KeepBut.trans (by repeat (first | (with_reducible first | exact HK.out | apply KeepBut.set_ | apply keep_drewN | apply keep_drew | apply keep_alloc) | exact HK.out)) hk (.inl rfl)); have n2_ := mz (hb); have n3_ := mz (hi); clear HO112; clear HK; clear HB; clear HI0; have HO112 := n0_; have HK := n1_; have HB := n2_; have HI0 := n3_; clear n0_ n1_ n2_ n3_; (try clear hb); (try clear hb2); (try clear hk); (try clear hi)))
                          repeat (go_quiet (first | (go_at_call 29; (with_reducible refine (spec_l1Cur_pick.calls g s0_0 x1001_1 x1002_1 (x1_1.size : Int) t104 t105 t106 w0 _ ?side1 ?side2 A9.out).mono ?_); (case side1 => repeat (first | (with_reducible first | exact HI0.out | apply IsS55.alloc | apply IsS55.drewN | apply IsS55.drew | apply IsS55.set_1 | apply IsS55.set_2) | exact HI0.out)); (case side2 => repeat (first | (with_reducible first | exact HB.out | apply below_alloc | apply pw_below_drewN | apply below_drew1 | refine below_set ?_ (IsS55.ge HI0.out)) | exact HB.out)); rintro e w22 ⟨rfl, hi, hb, hk⟩; have n0_ := mz (KeepBut.trans (by repeat (first | (with_reducible first | exact HK.out | apply KeepBut.set_ | apply keep_drewN | apply keep_drew | apply keep_alloc) | exact HK.out)) hk (.inl rfl)); have n1_ := mz (hb); have n2_ := mz (hi); clear HK; clear HB; clear HI0; have HK := n0_; have HB := n1_; have HI0 := n2_; clear n0_ n1_ n2_; (try clear hb); (try clear hb2); (try clear hk); (try clear hi)) | (go_at_call 29; (with_reducible refine (spec_l1Cur_pick.calls g s0_0 t105 t106 (a2.size : Int) t107 t108 t109 w0 _ ?side1 ?side2 A10.out).mono ?_); (case side1 => repeat (first | (with_reducible first | exact HI0.out | apply IsS55.alloc | apply IsS55.drewN | apply IsS55.drew | apply IsS55.set_1 | apply IsS55.set_2) | exact HI0.out)); (case side2 => repeat (first | (with_reducible first | exact HB.out | apply below_alloc | apply pw_below_drewN | apply below_drew1 | refine below_set ?_ (IsS55.ge HI0.out)) | exact HB.out)); rintro e w23 ⟨rfl, hi, hb, hk⟩; have n0_ := mz (KeepBut.trans (by repeat (first | (with_reducible first | exact HK.out | apply KeepBut.set_ | apply keep_drewN | apply keep_drew | apply keep_alloc) | exact HK.out)) hk (.inl rfl)); have n1_ := mz (hb); have n2_ := mz (hi); clear HK; clear HB; clear HI0; have HK := n0_; have HB := n1_; have HI0 := n2_; clear n0_ n1_ n2_; (try clear hb); (try clear hb2); (try clear hk); (try clear hi); have p13 : 0 ≤ (t107 : Int) := of_decide_eq_true (by first | (with_reducible assumption) | assumption); have q13 : t107 < (a2.size : Int) := of_decide_eq_true (by first | (with_reducible assumption) | assumption); have hx13 := bt_at a2 t107; replace p13 := eq_true p13; replace q13 := eq_true q13) | ((with_reducible refine gate_dst (N := 31) rfl ?_); (try (refine gate_guard (by rfl) ?_; dsimp only)); refine Kd.R_lit (Kd.int .u8) _ 5 ?hg (N := 31) ?hd (xs := ([bt a2 t107] : List Int)) (inner := [.int .u8 (bt a2 t107)]) (ok := fun _ => True) (okp := fun _ => True) ?hr ?hp (fun _ hk => hk) trivial (Below.refl _ _) (Nat.le_refl _) (by simp) ?_; (case hd => rfl); (case hg => rfl); (case hr => first | (go_simp; done) | (go_simp; rfl)); (case hp => exact (Reps.one (show Kd.M (Kd.int .u8) _ _ _ (bt a2 t107) [.int .u8 (bt a2 t107)] from rfl) (Reps.none _ _))); intro v111 w24 ho25 hb hg_ hnew_; clear hg_ hnew_; (first | rw [← Ny110.out] at ho25 | (simp only [Int.reduceToNat] at ho25; rw [← Ny110.out] at ho25)); have n0_ := mz (Kd.R_lower ho25 (keep_size (w := w) (g := g) (row := none) (by repeat (first | (with_reducible first | exact HK.out | apply KeepBut.set_ | apply keep_drewN | apply keep_drew | apply keep_alloc) | exact HK.out)))); have n1_ := mz (IsS55.below (by repeat (first | (with_reducible first | exact HI0.out | apply IsS55.alloc | apply IsS55.drewN | apply IsS55.drew | apply IsS55.set_1 | apply IsS55.set_2) | exact HI0.out)) hb); have n2_ := mz (KeepBut.trans (by repeat (first | (with_reducible first | exact HK.out | apply KeepBut.set_ | apply keep_drewN | apply keep_drew | apply keep_alloc) | exact HK.out)) (KeepBut.of_below hb g none) (.inl rfl)); have n3_ := mz (below_step (by repeat (first | (with_reducible first | exact HB.out | apply below_alloc | apply pw_below_drewN | apply below_drew1 | refine below_set ?_ (IsS55.ge HI0.out)) | exact HB.out)) hb); clear HI0; clear HK; clear HB; have HO112 := n0_; have HI0 := n1_; have HK := n2_; have HB := n3_; clear n0_ n1_ n2_ n3_; clear hb ho25; have hcv26 := own_string (P := Try.prog) Try.underlying22 Try.underlying5 Try.underlying9 (Kd.own_of_R HO112.out)) | (go_at_call 29; (with_reducible refine (spec_l1Cur_pick.calls g s0_0 t108 t109 3 t113 t114 t115 w0 _ ?side1 ?side2 A14.out).mono ?_); (case side1 => repeat (first | (with_reducible first | exact HI0.out | apply IsS55.alloc | apply IsS55.drewN | apply IsS55.drew | apply IsS55.set_1 | apply IsS55.set_2) | exact HI0.out)); (case side2 => repeat (first | (with_reducible first | exact HB.out | apply below_alloc | apply pw_below_drewN | apply below_drew1 | refine below_set ?_ (IsS55.ge HI0.out)) | exact HB.out)); rintro e w27 ⟨rfl, hi, hb, hk⟩; have n0_ := mz (Kd.R_mono (Kd.R_keep (IsS55.apart (show IsS55 w0 _ g s0_0 t108 t109 from by repeat (first | (with_reducible first | exact HI0.out | apply IsS55.alloc | apply IsS55.drewN | apply IsS55.drew | apply IsS55.set_1 | apply IsS55.set_2) | exact HI0.out)) (by (with_reducible repeat (first | apply Kd.R_alloc | apply Kd.R_drewN | apply Kd.R_drew)); exact HO112.out) (by decide)) hk (fun _ h => h.2)) (fun _ h => h.1)); have n1_ := mz (KeepBut.trans (by repeat (first | (with_reducible first | exact HK.out | apply KeepBut.set_ | apply keep_drewN | apply keep_drew | apply keep_alloc) | exact HK.out)) hk (.inl rfl)); have n2_ := mz (hb); have n3_ := mz (hi); clear HO112; clear HK; clear HB; clear HI0; have HO112 := n0_; have HK := n1_; have HB := n2_; have HI0 := n3_; clear n0_ n1_ n2_ n3_; (try clear hb); (try clear hb2); (try clear hk); (try clear hi))); try go_wp2_with (first | (go_at_call 29; (with_reducible refine (spec_l1Cur_pick.calls g s0_0 x1001_1 x1002_1 (x1_1.size : Int) t104 t105 t106 w0 _ ?side1 ?side2 A9.out).mono ?_); (case side1 => repeat (first | (with_reducible first | exact HI0.out | apply IsS55.alloc | apply IsS55.drewN | apply IsS55.drew | apply IsS55.set_1 | apply IsS55.set_2) | exact HI0.out)); (case side2 => repeat (first | (with_reducible first | exact HB.out | apply below_alloc | apply pw_below_drewN | apply below_drew1 | refine below_set ?_ (IsS55.ge HI0.out)) | exact HB.out)); rintro e w22 ⟨rfl, hi, hb, hk⟩; have n0_ := mz (KeepBut.trans (by repeat (first | (with_reducible first | exact HK.out | apply KeepBut.set_ | apply keep_drewN | apply keep_drew | apply keep_alloc) | exact HK.out)) hk (.inl rfl)); have n1_ := mz (hb); have n2_ := mz (hi); clear HK; clear HB; clear HI0; have HK := n0_; have HB := n1_; have HI0 := n2_; clear n0_ n1_ n2_; (try clear hb); (try clear hb2); (try clear hk); (try clear hi)) | (go_at_call 29; (with_reducible refine (spec_l1Cur_pick.calls g s0_0 t105 t106 (a2.size : Int) t107 t108 t109 w0 _ ?side1 ?side2 A10.out).mono ?_); (case side1 => repeat (first | (with_reducible first | exact HI0.out | apply IsS55.alloc | apply IsS55.drewN | apply IsS55.drew | apply IsS55.set_1 | apply IsS55.set_2) | exact HI0.out)); (case side2 => repeat (first | (with_reducible first | exact HB.out | apply below_alloc | apply pw_below_drewN | apply below_drew1 | refine below_set ?_ (IsS55.ge HI0.out)) | exact HB.out)); rintro e w23 ⟨rfl, hi, hb, hk⟩; have n0_ := mz (KeepBut.trans (by repeat (first | (with_reducible first | exact HK.out | apply KeepBut.set_ | apply keep_drewN | apply keep_drew | apply keep_alloc) | exact HK.out)) hk (.inl rfl)); have n1_ := mz (hb); have n2_ := mz (hi); clear HK; clear HB; clear HI0; have HK := n0_; have HB := n1_; have HI0 := n2_; clear n0_ n1_ n2_; (try clear hb); (try clear hb2); (try clear hk); (try clear hi); have p13 : 0 ≤ (t107 : Int) := of_decide_eq_true (by first | (with_reducible assumption) | assumption); have q13 : t107 < (a2.size : Int) := of_decide_eq_true (by first | (with_reducible assumption) | assumption); have hx13 := bt_at a2 t107; replace p13 := eq_true p13; replace q13 := eq_true q13) | ((with_reducible refine gate_dst (N := 31) rfl ?_); (try (refine gate_guard (by rfl) ?_; dsimp only)); refine Kd.R_lit (Kd.int .u8) _ 5 ?hg (N := 31) ?hd (xs := ([bt a2 t107] : List Int)) (inner := [.int .u8 (bt a2 t107)]) (ok := fun _ => True) (okp := fun _ => True) ?hr ?hp (fun _ hk => hk) trivial (Below.refl _ _) (Nat.le_refl _) (by simp) ?_; (case hd => rfl); (case hg => rfl); (case hr => first | (go_simp; done) | (go_simp; rfl)); (case hp => exact (Reps.one (show Kd.M (Kd.int .u8) _ _ _ (bt a2 t107) [.int .u8 (bt a2 t107)] from rfl) (Reps.none _ _))); intro v111 w24 ho25 hb hg_ hnew_; clear hg_ hnew_; (first | rw [← Ny110.out] at ho25 | (simp only [Int.reduceToNat] at ho25; rw [← Ny110.out] at ho25)); have n0_ := mz (Kd.R_lower ho25 (keep_size (w := w) (g := g) (row := none) (by repeat (first | (with_reducible first | exact HK.out | apply KeepBut.set_ | apply keep_drewN | apply keep_drew | apply keep_alloc) | exact HK.out)))); have n1_ := mz (IsS55.below (by repeat (first | (with_reducible first | exact HI0.out | apply IsS55.alloc | apply IsS55.drewN | apply IsS55.drew | apply IsS55.set_1 | apply IsS55.set_2) | exact HI0.out)) hb); have n2_ := mz (KeepBut.trans (by repeat (first | (with_reducible first | exact HK.out | apply KeepBut.set_ | apply keep_drewN | apply keep_drew | apply keep_alloc) | exact HK.out)) (KeepBut.of_below hb g none) (.inl rfl)); have n3_ := mz (below_step (by repeat (first | (with_reducible first | exact HB.out | apply below_alloc | apply pw_below_drewN | apply below_drew1 | refine below_set ?_ (IsS55.ge HI0.out)) | exact HB.out)) hb); clear HI0; clear HK; clear HB; have HO112 := n0_; have HI0 := n1_; have HK := n2_; have HB := n3_; clear n0_ n1_ n2_ n3_; clear hb ho25; have hcv26 := own_string (P := Try.prog) Try.underlying22 Try.underlying5 Try.underlying9 (Kd.own_of_R HO112.out)) | (go_at_call 29; (with_reducible refine (spec_l1Cur_pick.calls g s0_0 t108 t109 3 t113 t114 t115 w0 _ ?side1 ?side2 A14.out).mono ?_); (case side1 => repeat (first | (with_reducible first | exact HI0.out | apply IsS55.alloc | apply IsS55.drewN | apply IsS55.drew | apply IsS55.set_1 | apply IsS55.set_2) | exact HI0.out)); (case side2 => repeat (first | (with_reducible first | exact HB.out | apply below_alloc | apply pw_below_drewN | apply below_drew1 | refine below_set ?_ (IsS55.ge HI0.out)) | exact HB.out)); rintro e w27 ⟨rfl, hi, hb, hk⟩; have n0_ := mz (Kd.R_mono (Kd.R_keep (IsS55.apart (show IsS55 w0 _ g s0_0 t108 t109 from by repeat (first | (with_reducible first | exact HI0.out | apply IsS55.alloc | apply IsS55.drewN | apply IsS55.drew | apply IsS55.set_1 | apply IsS55.set_2) | exact HI0.out)) (by (with_reducible repeat (first | apply Kd.R_alloc | apply Kd.R_drewN | apply Kd.R_drew)); exact HO112.out) (by decide)) hk (fun _ h => h.2)) (fun _ h => h.1)); have n1_ := mz (KeepBut.trans (by repeat (first | (with_reducible first | exact HK.out | apply KeepBut.set_ | apply keep_drewN | apply keep_drew | apply keep_alloc) | exact HK.out)) hk (.inl rfl)); have n2_ := mz (hb); have n3_ := mz (hi); clear HO112; clear HK; clear HB; clear HI0; have HO112 := n0_; have HK := n1_; have HB := n2_; have HI0 := n3_; clear n0_ n1_ n2_ n3_; (try clear hb); (try clear hb2); (try clear hk); (try clear hi))))
                          go_roundg kj5
                          case measure => have := HK1.out; have := HJ5.out; omega
                          case rel => exact ⟨(((x1_1.extract 0 (t104 : Int).toNat) ++ (strOfNums y110)) ++ (x1_1.extract (t104 : Int).toNat x1_1.size)), (wrap64 (x7_1 - 1)), (t114), (t115), (by first | rfl | (simp; done) | (simp [*]; done)), (by first | rfl | (simp; done) | (simp [*]; done)), H', ⟨by have := HK1.out; have := HJ5.out; omega⟩, ⟨by repeat (first | (with_reducible first | exact HI0.out | apply IsS55.alloc | apply IsS55.drewN | apply IsS55.drew | apply IsS55.set_1 | apply IsS55.set_2) | exact HI0.out)⟩, ⟨by repeat (first | (with_reducible first | exact HK.out | apply KeepBut.set_ | apply keep_drewN | apply keep_drew | apply keep_alloc) | exact HK.out)⟩, ⟨by repeat (first | (with_reducible first | exact HB.out | apply below_alloc | apply pw_below_drewN | apply below_drew1 | refine below_set ?_ (IsS55.ge HI0.out)) | exact HB.out)⟩⟩
                        · rw [if_neg c21] at H
                          exact absurd H (by simp)
                      · rw [if_neg c18] at H
                        exact absurd H (by simp)
                    · rw [if_neg c17] at H
                      exact absurd H (by simp)
                  · rw [if_neg c16] at H
                    exact absurd H (by simp)
                · rw [if_neg c15] at H
                  have c15b0 : (t113 == 0) = false := beq_eq_false_iff_ne.mpr c15
                  have c15b1 : (t113 != 0) = true := bne_iff_ne.mpr c15
                  by_cases c28 : t113 = 1
                  · rw [if_pos c28] at H
                    have c28b0 : (t113 == 1) = true := beq_iff_eq.mpr c28
                    have c28b1 : (t113 != 1) = false := bne_eq_false_iff_eq.mpr c28
                    clear c28
                    by_cases c29 : 0 ≤ t104
                    · rw [if_pos c29] at H
                      have c29b0 := eq_true c29
                      have c29b1 : decide (0 ≤ t104) = true := decide_eq_true c29
                      clear c29
                      by_cases c30 : t104 ≤ (x1_1.size : Int)
                      · rw [if_pos c30] at H
                        have c30b0 := eq_true c30
                        have c30b1 : decide (t104 ≤ (x1_1.size : Int)) = true := decide_eq_true c30
                        clear c30
                        by_cases c31 : (x1_1.extract 0 (t104 : Int).toNat).size + (strOfNums y110).size ≤ 9223372036854775807
                        · rw [if_pos c31] at H
                          have c31b0 := eq_true c31
                          have c31b1 : decide ((x1_1.extract 0 (t104 : Int).toNat).size + (strOfNums y110).size ≤ 9223372036854775807) = true := decide_eq_true c31
                          try have c31b2 : (9223372036854775807 < (x1_1.extract 0 (t104 : Int).toNat).size + (strOfNums y110).size) = False := eq_false (Nat.not_lt.2 c31)
                          obtain ⟨ji32, hji32⟩ : ∃ j_ : Int, (wrap64 (t104 + 1)) = j_ := ⟨_, rfl⟩
                          replace H : (if 0 ≤ (ji32) then (if (ji32) ≤ (x1_1.size : Int) then (if ((x1_1.extract 0 (t104 : Int).toNat) ++ (strOfNums y110)).size + (x1_1.extract ((ji32) : Int).toNat x1_1.size).size ≤ 9223372036854775807 then (spec_l1Cur_spoilt.l0 kj5 (((x1_1.extract 0 (t104 : Int).toNat) ++ (strOfNums y110)) ++ (x1_1.extract ((ji32) : Int).toNat x1_1.size)) a2 (wrap64 (x7_1 - 1)) s0_0 t114 t115) else (none)) else (none)) else (none)) = some (r1, r2, r3) := by first | (rw [hji32] at H; exact H) | (simp only [hji32] at H ⊢; exact H)
                          (try rw [hji32] at A9)
                          (try rw [hji32] at A10)
                          (try rw [hji32] at A14)
                          have hji32w : (IntKind.i64.wrap (t104 + 1)) = ji32 := (i64_w _).trans hji32
                          by_cases c33 : 0 ≤ (ji32)
                          · rw [if_pos c33] at H
                            have c33b0 := eq_true c33
                            have c33b1 : decide (0 ≤ (ji32)) = true := decide_eq_true c33
                            clear c33
                            by_cases c34 : (ji32) ≤ (x1_1.size : Int)
                            · rw [if_pos c34] at H
                              have c34b0 := eq_true c34
                              have c34b1 : decide ((ji32) ≤ (x1_1.size : Int)) = true := decide_eq_true c34
                              clear c34
                              by_cases c35 : ((x1_1.extract 0 (t104 : Int).toNat) ++ (strOfNums y110)).size + (x1_1.extract ((ji32) : Int).toNat x1_1.size).size ≤ 9223372036854775807
                              · rw [if_pos c35] at H
                                have c35b0 := eq_true c35
                                have c35b1 : decide (((x1_1.extract 0 (t104 : Int).toNat) ++ (strOfNums y110)).size + (x1_1.extract ((ji32) : Int).toNat x1_1.size).size ≤ 9223372036854775807) = true := decide_eq_true c35
                                try have c35b2 : (9223372036854775807 < ((x1_1.extract 0 (t104 : Int).toNat) ++ (strOfNums y110)).size + (x1_1.extract ((ji32) : Int).toNat x1_1.size).size) = False := eq_false (Nat.not_lt.2 c35)
                                try have c35b3 := c35b2
                                try simp only [ByteArray.size_append] at c35b3
                                have H' := mz H
                                clear H
                                go_wp2_with (first | (go_at_call 29; (with_reducible refine (spec_l1Cur_pick.calls g s0_0 x1001_1 x1002_1 (x1_1.size : Int) t104 t105 t106 w0 _ ?side1 ?side2 A9.out).mono ?_); (case side1 => repeat (first | (with_reducible first | exact HI0.out | apply IsS55.alloc | apply IsS55.drewN | apply IsS55.drew | apply IsS55.set_1 | apply IsS55.set_2) | exact HI0.out)); (case side2 => repeat (first | (with_reducible first | exact HB.out | apply below_alloc | apply pw_below_drewN | apply below_drew1 | refine below_set ?_ (IsS55.ge HI0.out)) | exact HB.out)); rintro e w36 ⟨rfl, hi, hb, hk⟩; have n0_ := mz (KeepBut.trans (by repeat (first | (with_reducible first | exact HK.out | apply KeepBut.set_ | apply keep_drewN | apply keep_drew | apply keep_alloc) | exact HK.out)) hk (.inl rfl)); have n1_ := mz (hb); have n2_ := mz (hi); clear HK; clear HB; clear HI0; have HK := n0_; have HB := n1_; have HI0 := n2_; clear n0_ n1_ n2_; (try clear hb); (try clear hb2); (try clear hk); (try clear hi)) | (go_at_call 29; (with_reducible refine (spec_l1Cur_pick.calls g s0_0 t105 t106 (a2.size : Int) t107 t108 t109 w0 _ ?side1 ?side2 A10.out).mono ?_); (case side1 => repeat (first | (with_reducible first | exact HI0.out | apply IsS55.alloc | apply IsS55.drewN | apply IsS55.drew | apply IsS55.set_1 | apply IsS55.set_2) | exact HI0.out)); (case side2 => repeat (first | (with_reducible first | exact HB.out | apply below_alloc | apply pw_below_drewN | apply below_drew1 | refine below_set ?_ (IsS55.ge HI0.out)) | exact HB.out)); rintro e w37 ⟨rfl, hi, hb, hk⟩; have n0_ := mz (KeepBut.trans (by repeat (first | (with_reducible first | exact HK.out | apply KeepBut.set_ | apply keep_drewN | apply keep_drew | apply keep_alloc) | exact HK.out)) hk (.inl rfl)); have n1_ := mz (hb); have n2_ := mz (hi); clear HK; clear HB; clear HI0; have HK := n0_; have HB := n1_; have HI0 := n2_; clear n0_ n1_ n2_; (try clear hb); (try clear hb2); (try clear hk); (try clear hi); have p13 : 0 ≤ (t107 : Int) := of_decide_eq_true (by first | (with_reducible assumption) | assumption); have q13 : t107 < (a2.size : Int) := of_decide_eq_true (by first | (with_reducible assumption) | assumption); have hx13 := bt_at a2 t107; replace p13 := eq_true p13; replace q13 := eq_true q13) | ((with_reducible refine gate_dst (N := 31) rfl ?_); (try (refine gate_guard (by rfl) ?_; dsimp only)); refine Kd.R_lit (Kd.int .u8) _ 5 ?hg (N := 31) ?hd (xs := ([bt a2 t107] : List Int)) (inner := [.int .u8 (bt a2 t107)]) (ok := fun _ => True) (okp := fun _ => True) ?hr ?hp (fun _ hk => hk) trivial (Below.refl _ _) (Nat.le_refl _) (by simp) ?_; (case hd => rfl); (case hg => rfl); (case hr => first | (go_simp; done) | (go_simp; rfl)); (case hp => exact (Reps.one (show Kd.M (Kd.int .u8) _ _ _ (bt a2 t107) [.int .u8 (bt a2 t107)] from rfl) (Reps.none _ _))); intro v111 w38 ho39 hb hg_ hnew_; clear hg_ hnew_; (first | rw [← Ny110.out] at ho39 | (simp only [Int.reduceToNat] at ho39; rw [← Ny110.out] at ho39)); have n0_ := mz (Kd.R_lower ho39 (keep_size (w := w) (g := g) (row := none) (by repeat (first | (with_reducible first | exact HK.out | apply KeepBut.set_ | apply keep_drewN | apply keep_drew | apply keep_alloc) | exact HK.out)))); have n1_ := mz (IsS55.below (by repeat (first | (with_reducible first | exact HI0.out | apply IsS55.alloc | apply IsS55.drewN | apply IsS55.drew | apply IsS55.set_1 | apply IsS55.set_2) | exact HI0.out)) hb); have n2_ := mz (KeepBut.trans (by repeat (first | (with_reducible first | exact HK.out | apply KeepBut.set_ | apply keep_drewN | apply keep_drew | apply keep_alloc) | exact HK.out)) (KeepBut.of_below hb g none) (.inl rfl)); have n3_ := mz (below_step (by repeat (first | (with_reducible first | exact HB.out | apply below_alloc | apply pw_below_drewN | apply below_drew1 | refine below_set ?_ (IsS55.ge HI0.out)) | exact HB.out)) hb); clear HI0; clear HK; clear HB; have HO112 := n0_; have HI0 := n1_; have HK := n2_; have HB := n3_; clear n0_ n1_ n2_ n3_; clear hb ho39; have hcv40 := own_string (P := Try.prog) Try.underlying22 Try.underlying5 Try.underlying9 (Kd.own_of_R HO112.out)) | (go_at_call 29; (with_reducible refine (spec_l1Cur_pick.calls g s0_0 t108 t109 3 t113 t114 t115 w0 _ ?side1 ?side2 A14.out).mono ?_); (case side1 => repeat (first | (with_reducible first | exact HI0.out | apply IsS55.alloc | apply IsS55.drewN | apply IsS55.drew | apply IsS55.set_1 | apply IsS55.set_2) | exact HI0.out)); (case side2 => repeat (first | (with_reducible first | exact HB.out | apply below_alloc | apply pw_below_drewN | apply below_drew1 | refine below_set ?_ (IsS55.ge HI0.out)) | exact HB.out)); rintro e w41 ⟨rfl, hi, hb, hk⟩; have n0_ := mz (Kd.R_mono (Kd.R_keep (IsS55.apart (show IsS55 w0 _ g s0_0 t108 t109 from by repeat (first | (with_reducible first | exact HI0.out | apply IsS55.alloc | apply IsS55.drewN | apply IsS55.drew | apply IsS55.set_1 | apply IsS55.set_2) | exact HI0.out)) (by (with_reducible repeat (first | apply Kd.R_alloc | apply Kd.R_drewN | apply Kd.R_drew)); exact HO112.out) (by decide)) hk (fun _ h => h.2)) (fun _ h => h.1)); have n1_ := mz (KeepBut.trans (by repeat (first | (with_reducible first | exact HK.out | apply KeepBut.set_ | apply keep_drewN | apply keep_drew | apply keep_alloc) | exact HK.out)) hk (.inl rfl)); have n2_ := mz (hb); have n3_ := mz (hi); clear HO112; clear HK; clear HB; clear HI0; have HO112 := n0_; have HK := n1_; have HB := n2_; have HI0 := n3_; clear n0_ n1_ n2_ n3_; (try clear hb); (try clear hb2); (try clear hk); (try clear hi)))
                                repeat (go_quiet (first | (go_at_call 29; (with_reducible refine (spec_l1Cur_pick.calls g s0_0 x1001_1 x1002_1 (x1_1.size : Int) t104 t105 t106 w0 _ ?side1 ?side2 A9.out).mono ?_); (case side1 => repeat (first | (with_reducible first | exact HI0.out | apply IsS55.alloc | apply IsS55.drewN | apply IsS55.drew | apply IsS55.set_1 | apply IsS55.set_2) | exact HI0.out)); (case side2 => repeat (first | (with_reducible first | exact HB.out | apply below_alloc | apply pw_below_drewN | apply below_drew1 | refine below_set ?_ (IsS55.ge HI0.out)) | exact HB.out)); rintro e w36 ⟨rfl, hi, hb, hk⟩; have n0_ := mz (KeepBut.trans (by repeat (first | (with_reducible first | exact HK.out | apply KeepBut.set_ | apply keep_drewN | apply keep_drew | apply keep_alloc) | exact HK.out)) hk (.inl rfl)); have n1_ := mz (hb); have n2_ := mz (hi); clear HK; clear HB; clear HI0; have HK := n0_; have HB := n1_; have HI0 := n2_; clear n0_ n1_ n2_; (try clear hb); (try clear hb2); (try clear hk); (try clear hi)) | (go_at_call 29; (with_reducible refine (spec_l1Cur_pick.calls g s0_0 t105 t106 (a2.size : Int) t107 t108 t109 w0 _ ?side1 ?side2 A10.out).mono ?_); (case side1 => repeat (first | (with_reducible first | exact HI0.out | apply IsS55.alloc | apply IsS55.drewN | apply IsS55.drew | apply IsS55.set_1 | apply IsS55.set_2) | exact HI0.out)); (case side2 => repeat (first | (with_reducible first | exact HB.out | apply below_alloc | apply pw_below_drewN | apply below_drew1 | refine below_set ?_ (IsS55.ge HI0.out)) | exact HB.out)); rintro e w37 ⟨rfl, hi, hb, hk⟩; have n0_ := mz (KeepBut.trans (by repeat (first | (with_reducible first | exact HK.out | apply KeepBut.set_ | apply keep_drewN | apply keep_drew | apply keep_alloc) | exact HK.out)) hk (.inl rfl)); have n1_ := mz (hb); have n2_ := mz (hi); clear HK; clear HB; clear HI0; have HK := n0_; have HB := n1_; have HI0 := n2_; clear n0_ n1_ n2_; (try clear hb); (try clear hb2); (try clear hk); (try clear hi); have p13 : 0 ≤ (t107 : Int) := of_decide_eq_true (by first | (with_reducible assumption) | assumption); have q13 : t107 < (a2.size : Int) := of_decide_eq_true (by first | (with_reducible assumption) | assumption); have hx13 := bt_at a2 t107; replace p13 := eq_true p13; replace q13 := eq_true q13) | ((with_reducible refine gate_dst (N := 31) rfl ?_); (try (refine gate_guard (by rfl) ?_; dsimp only)); refine Kd.R_lit (Kd.int .u8) _ 5 ?hg (N := 31) ?hd (xs := ([bt a2 t107] : List Int)) (inner := [.int .u8 (bt a2 t107)]) (ok := fun _ => True) (okp := fun _ => True) ?hr ?hp (fun _ hk => hk) trivial (Below.refl _ _) (Nat.le_refl _) (by simp) ?_; (case hd => rfl); (case hg => rfl); (case hr => first | (go_simp; done) | (go_simp; rfl)); (case hp => exact (Reps.one (show Kd.M (Kd.int .u8) _ _ _ (bt a2 t107) [.int .u8 (bt a2 t107)] from rfl) (Reps.none _ _))); intro v111 w38 ho39 hb hg_ hnew_; clear hg_ hnew_; (first | rw [← Ny110.out] at ho39 | (simp only [Int.reduceToNat] at ho39; rw [← Ny110.out] at ho39)); have n0_ := mz (Kd.R_lower ho39 (keep_size (w := w) (g := g) (row := none) (by repeat (first | (with_reducible first | exact HK.out | apply KeepBut.set_ | apply keep_drewN | apply keep_drew | apply keep_alloc) | exact HK.out)))); have n1_ := mz (IsS55.below (by repeat (first | (with_reducible first | exact HI0.out | apply IsS55.alloc | apply IsS55.drewN | apply IsS55.drew | apply IsS55.set_1 | apply IsS55.set_2) | exact HI0.out)) hb); have n2_ := mz (KeepBut.trans (by repeat (first | (with_reducible first | exact HK.out | apply KeepBut.set_ | apply keep_drewN | apply keep_drew | apply keep_alloc) | exact HK.out)) (KeepBut.of_below hb g none) (.inl rfl)); have n3_ := mz (below_step (by repeat (first | (with_reducible first | exact HB.out | apply below_alloc | apply pw_below_drewN | apply below_drew1 | refine below_set ?_ (IsS55.ge HI0.out)) | exact HB.out)) hb); clear HI0; clear HK; clear HB; have HO112 := n0_; have HI0 := n1_; have HK := n2_; have HB := n3_; clear n0_ n1_ n2_ n3_; clear hb ho39; have hcv40 := own_string (P := Try.prog) Try.underlying22 Try.underlying5 Try.underlying9 (Kd.own_of_R HO112.out)) | (go_at_call 29; (with_reducible refine (spec_l1Cur_pick.calls g s0_0 t108 t109 3 t113 t114 t115 w0 _ ?side1 ?side2 A14.out).mono ?_); (case side1 => repeat (first | (with_reducible first | exact HI0.out | apply IsS55.alloc | apply IsS55.drewN | apply IsS55.drew | apply IsS55.set_1 | apply IsS55.set_2) | exact HI0.out)); (case side2 => repeat (first | (with_reducible first | exact HB.out | apply below_alloc | apply pw_below_drewN | apply below_drew1 | refine below_set ?_ (IsS55.ge HI0.out)) | exact HB.out)); rintro e w41 ⟨rfl, hi, hb, hk⟩; have n0_ := mz (Kd.R_mono (Kd.R_keep (IsS55.apart (show IsS55 w0 _ g s0_0 t108 t109 from by repeat (first | (with_reducible first | exact HI0.out | apply IsS55.alloc | apply IsS55.drewN | apply IsS55.drew | apply IsS55.set_1 | apply IsS55.set_2) | exact HI0.out)) (by (with_reducible repeat (first | apply Kd.R_alloc | apply Kd.R_drewN | apply Kd.R_drew)); exact HO112.out) (by decide)) hk (fun _ h => h.2)) (fun _ h => h.1)); have n1_ := mz (KeepBut.trans (by repeat (first | (with_reducible first | exact HK.out | apply KeepBut.set_ | apply keep_drewN | apply keep_drew | apply keep_alloc) | exact HK.out)) hk (.inl rfl)); have n2_ := mz (hb); have n3_ := mz (hi); clear HO112; clear HK; clear HB; clear HI0; have HO112 := n0_; have HK := n1_; have HB := n2_; have HI0 := n3_; clear n0_ n1_ n2_ n3_; (try clear hb); (try clear hb2); (try clear hk); (try clear hi))); try go_wp2_with (first | (go_at_call 29; (with_reducible refine (spec_l1Cur_pick.calls g s0_0 x1001_1 x1002_1 (x1_1.size : Int) t104 t105 t106 w0 _ ?side1 ?side2 A9.out).mono ?_); (case side1 => repeat (first | (with_reducible first | exact HI0.out | apply IsS55.alloc | apply IsS55.drewN | apply IsS55.drew | apply IsS55.set_1 | apply IsS55.set_2) | exact HI0.out)); (case side2 => repeat (first | (with_reducible first | exact HB.out | apply below_alloc | apply pw_below_drewN | apply below_drew1 | refine below_set ?_ (IsS55.ge HI0.out)) | exact HB.out)); rintro e w36 ⟨rfl, hi, hb, hk⟩; have n0_ := mz (KeepBut.trans (by repeat (first | (with_reducible first | exact HK.out | apply KeepBut.set_ | apply keep_drewN | apply keep_drew | apply keep_alloc) | exact HK.out)) hk (.inl rfl)); have n1_ := mz (hb); have n2_ := mz (hi); clear HK; clear HB; clear HI0; have HK := n0_; have HB := n1_; have HI0 := n2_; clear n0_ n1_ n2_; (try clear hb); (try clear hb2); (try clear hk); (try clear hi)) | (go_at_call 29; (with_reducible refine (spec_l1Cur_pick.calls g s0_0 t105 t106 (a2.size : Int) t107 t108 t109 w0 _ ?side1 ?side2 A10.out).mono ?_); (case side1 => repeat (first | (with_reducible first | exact HI0.out | apply IsS55.alloc | apply IsS55.drewN | apply IsS55.drew | apply IsS55.set_1 | apply IsS55.set_2) | exact HI0.out)); (case side2 => repeat (first | (with_reducible first | exact HB.out | apply below_alloc | apply pw_below_drewN | apply below_drew1 | refine below_set ?_ (IsS55.ge HI0.out)) | exact HB.out)); rintro e w37 ⟨rfl, hi, hb, hk⟩; have n0_ := mz (KeepBut.trans (by repeat (first | (with_reducible first | exact HK.out | apply KeepBut.set_ | apply keep_drewN | apply keep_drew | apply keep_alloc) | exact HK.out)) hk (.inl rfl)); have n1_ := mz (hb); have n2_ := mz (hi); clear HK; clear HB; clear HI0; have HK := n0_; have HB := n1_; have HI0 := n2_; clear n0_ n1_ n2_; (try clear hb); (try clear hb2); (try clear hk); (try clear hi); have p13 : 0 ≤ (t107 : Int) := of_decide_eq_true (by first | (with_reducible assumption) | assumption); have q13 : t107 < (a2.size : Int) := of_decide_eq_true (by first | (with_reducible assumption) | assumption); have hx13 := bt_at a2 t107; replace p13 := eq_true p13; replace q13 := eq_true q13) | ((with_reducible refine gate_dst (N := 31) rfl ?_); (try (refine gate_guard (by rfl) ?_; dsimp only)); refine Kd.R_lit (Kd.int .u8) _ 5 ?hg (N := 31) ?hd (xs := ([bt a2 t107] : List Int)) (inner := [.int .u8 (bt a2 t107)]) (ok := fun _ => True) (okp := fun _ => True) ?hr ?hp (fun _ hk => hk) trivial (Below.refl _ _) (Nat.le_refl _) (by simp) ?_; (case hd => rfl); (case hg => rfl); (case hr => first | (go_simp; done) | (go_simp; rfl)); (case hp => exact (Reps.one (show Kd.M (Kd.int .u8) _ _ _ (bt a2 t107) [.int .u8 (bt a2 t107)] from rfl) (Reps.none _ _))); intro v111 w38 ho39 hb hg_ hnew_; clear hg_ hnew_; (first | rw [← Ny110.out] at ho39 | (simp only [Int.reduceToNat] at ho39; rw [← Ny110.out] at ho39)); have n0_ := mz (Kd.R_lower ho39 (keep_size (w := w) (g := g) (row := none) (by repeat (first | (with_reducible first | exact HK.out | apply KeepBut.set_ | apply keep_drewN | apply keep_drew | apply keep_alloc) | exact HK.out)))); have n1_ := mz (IsS55.below (by repeat (first | (with_reducible first | exact HI0.out | apply IsS55.alloc | apply IsS55.drewN | apply IsS55.drew | apply IsS55.set_1 | apply IsS55.set_2) | exact HI0.out)) hb); have n2_ := mz (KeepBut.trans (by repeat (first | (with_reducible first | exact HK.out | apply KeepBut.set_ | apply keep_drewN | apply keep_drew | apply keep_alloc) | exact HK.out)) (KeepBut.of_below hb g none) (.inl rfl)); have n3_ := mz (below_step (by repeat (first | (with_reducible first | exact HB.out | apply below_alloc | apply pw_below_drewN | apply below_drew1 | refine below_set ?_ (IsS55.ge HI0.out)) | exact HB.out)) hb); clear HI0; clear HK; clear HB; have HO112 := n0_; have HI0 := n1_; have HK := n2_; have HB := n3_; clear n0_ n1_ n2_ n3_; clear hb ho39; have hcv40 := own_string (P := Try.prog) Try.underlying22 Try.underlying5 Try.underlying9 (Kd.own_of_R HO112.out)) | (go_at_call 29; (with_reducible refine (spec_l1Cur_pick.calls g s0_0 t108 t109 3 t113 t114 t115 w0 _ ?side1 ?side2 A14.out).mono ?_); (case side1 => repeat (first | (with_reducible first | exact HI0.out | apply IsS55.alloc | apply IsS55.drewN | apply IsS55.drew | apply IsS55.set_1 | apply IsS55.set_2) | exact HI0.out)); (case side2 => repeat (first | (with_reducible first | exact HB.out | apply below_alloc | apply pw_below_drewN | apply below_drew1 | refine below_set ?_ (IsS55.ge HI0.out)) | exact HB.out)); rintro e w41 ⟨rfl, hi, hb, hk⟩; have n0_ := mz (Kd.R_mono (Kd.R_keep (IsS55.apart (show IsS55 w0 _ g s0_0 t108 t109 from by repeat (first | (with_reducible first | exact HI0.out | apply IsS55.alloc | apply IsS55.drewN | apply IsS55.drew | apply IsS55.set_1 | apply IsS55.set_2) | exact HI0.out)) (by (with_reducible repeat (first | apply Kd.R_alloc | apply Kd.R_drewN | apply Kd.R_drew)); exact HO112.out) (by decide)) hk (fun _ h => h.2)) (fun _ h => h.1)); have n1_ := mz (KeepBut.trans (by repeat (first | (with_reducible first | exact HK.out | apply KeepBut.set_ | apply keep_drewN | apply keep_drew | apply keep_alloc) | exact HK.out)) hk (.inl rfl)); have n2_ := mz (hb); have n3_ := mz (hi); clear HO112; clear HK; clear HB; clear HI0; have HO112 := n0_; have HK := n1_; have HB := n2_; have HI0 := n3_; clear n0_ n1_ n2_ n3_; (try clear hb); (try clear hb2); (try clear hk); (try clear hi))))
                                go_roundg kj5
                                case measure => have := HK1.out; have := HJ5.out; omega
                                case rel => exact ⟨(((x1_1.extract 0 (t104 : Int).toNat) ++ (strOfNums y110)) ++ (x1_1.extract ((ji32) : Int).toNat x1_1.size)), (wrap64 (x7_1 - 1)), (t114), (t115), (by first | rfl | (simp; done) | (simp only [← hji32] <;> (first | rfl | simp)) | (simp [*]; done)), (by first | rfl | (simp; done) | (simp [*]; done)), (by first | exact H' | (simp only [hji32]; exact H') | (subst hji32; exact H')), ⟨by have := HK1.out; have := HJ5.out; omega⟩, ⟨by repeat (first | (with_reducible first | exact HI0.out | apply IsS55.alloc | apply IsS55.drewN | apply IsS55.drew | apply IsS55.set_1 | apply IsS55.set_2) | exact HI0.out)⟩, ⟨by repeat (first | (with_reducible first | exact HK.out | apply KeepBut.set_ | apply keep_drewN | apply keep_drew | apply keep_alloc) | exact HK.out)⟩, ⟨by repeat (first | (with_reducible first | exact HB.out | apply below_alloc | apply pw_below_drewN | apply below_drew1 | refine below_set ?_ (IsS55.ge HI0.out)) | exact HB.out)⟩⟩
                              · rw [if_neg c35] at H
                                exact absurd H (by simp)
                            · rw [if_neg c34] at H
                              exact absurd H (by simp)
                          · rw [if_neg c33] at H
                            exact absurd H (by simp)
                        · rw [if_neg c31] at H
                          exact absurd H (by simp)
                      · rw [if_neg c30] at H
                        exact absurd H (by simp)
                    · rw [if_neg c29] at H
                      exact absurd H (by simp)
                  · rw [if_neg c28] at H
                    have c28b0 : (t113 == 1) = false := beq_eq_false_iff_ne.mpr c28
                    have c28b1 : (t113 != 1) = true := bne_iff_ne.mpr c28
                    by_cases c42 : 0 ≤ t104
                    · rw [if_pos c42] at H
                      have c42b0 := eq_true c42
                      have c42b1 : decide (0 ≤ t104) = true := decide_eq_true c42
                      clear c42
                      by_cases c43 : t104 ≤ (x1_1.size : Int)
                      · rw [if_pos c43] at H
                        have c43b0 := eq_true c43
                        have c43b1 : decide (t104 ≤ (x1_1.size : Int)) = true := decide_eq_true c43
                        clear c43
                        obtain ⟨ji44, hji44⟩ : ∃ j_ : Int, (wrap64 (t104 + 1)) = j_ := ⟨_, rfl⟩
                        replace H : (if 0 ≤ (ji44) then (if (ji44) ≤ (x1_1.size : Int) then (if (x1_1.extract 0 (t104 : Int).toNat).size + (x1_1.extract ((ji44) : Int).toNat x1_1.size).size ≤ 9223372036854775807 then (spec_l1Cur_spoilt.l0 kj5 ((x1_1.extract 0 (t104 : Int).toNat) ++ (x1_1.extract ((ji44) : Int).toNat x1_1.size)) a2 (wrap64 (x7_1 - 1)) s0_0 t114 t115) else (none)) else (none)) else (none)) = some (r1, r2, r3) := by first | (rw [hji44] at H; exact H) | (simp only [hji44] at H ⊢; exact H)
                        (try rw [hji44] at A9)
                        (try rw [hji44] at A10)
                        (try rw [hji44] at A14)
                        have hji44w : (IntKind.i64.wrap (t104 + 1)) = ji44 := (i64_w _).trans hji44
                        by_cases c45 : 0 ≤ (ji44)
                        · rw [if_pos c45] at H
                          have c45b0 := eq_true c45
                          have c45b1 : decide (0 ≤ (ji44)) = true := decide_eq_true c45
                          clear c45
                          by_cases c46 : (ji44) ≤ (x1_1.size : Int)
                          · rw [if_pos c46] at H
                            have c46b0 := eq_true c46
                            have c46b1 : decide ((ji44) ≤ (x1_1.size : Int)) = true := decide_eq_true c46
                            clear c46
                            by_cases c47 : (x1_1.extract 0 (t104 : Int).toNat).size + (x1_1.extract ((ji44) : Int).toNat x1_1.size).size ≤ 9223372036854775807
                            · rw [if_pos c47] at H
                              have c47b0 := eq_true c47
                              have c47b1 : decide ((x1_1.extract 0 (t104 : Int).toNat).size + (x1_1.extract ((ji44) : Int).toNat x1_1.size).size ≤ 9223372036854775807) = true := decide_eq_true c47
                              try have c47b2 : (9223372036854775807 < (x1_1.extract 0 (t104 : Int).toNat).size + (x1_1.extract ((ji44) : Int).toNat x1_1.size).size) = False := eq_false (Nat.not_lt.2 c47)
                              have H' := mz H
                              clear H
                              go_wp2_with (first | (go_at_call 29; (with_reducible refine (spec_l1Cur_pick.calls g s0_0 x1001_1 x1002_1 (x1_1.size : Int) t104 t105 t106 w0 _ ?side1 ?side2 A9.out).mono ?_); (case side1 => repeat (first | (with_reducible first | exact HI0.out | apply IsS55.alloc | apply IsS55.drewN | apply IsS55.drew | apply IsS55.set_1 | apply IsS55.set_2) | exact HI0.out)); (case side2 => repeat (first | (with_reducible first | exact HB.out | apply below_alloc | apply pw_below_drewN | apply below_drew1 | refine below_set ?_ (IsS55.ge HI0.out)) | exact HB.out)); rintro e w48 ⟨rfl, hi, hb, hk⟩; have n0_ := mz (KeepBut.trans (by repeat (first | (with_reducible first | exact HK.out | apply KeepBut.set_ | apply keep_drewN | apply keep_drew | apply keep_alloc) | exact HK.out)) hk (.inl rfl)); have n1_ := mz (hb); have n2_ := mz (hi); clear HK; clear HB; clear HI0; have HK := n0_; have HB := n1_; have HI0 := n2_; clear n0_ n1_ n2_; (try clear hb); (try clear hb2); (try clear hk); (try clear hi)) | (go_at_call 29; (with_reducible refine (spec_l1Cur_pick.calls g s0_0 t105 t106 (a2.size : Int) t107 t108 t109 w0 _ ?side1 ?side2 A10.out).mono ?_); (case side1 => repeat (first | (with_reducible first | exact HI0.out | apply IsS55.alloc | apply IsS55.drewN | apply IsS55.drew | apply IsS55.set_1 | apply IsS55.set_2) | exact HI0.out)); (case side2 => repeat (first | (with_reducible first | exact HB.out | apply below_alloc | apply pw_below_drewN | apply below_drew1 | refine below_set ?_ (IsS55.ge HI0.out)) | exact HB.out)); rintro e w49 ⟨rfl, hi, hb, hk⟩; have n0_ := mz (KeepBut.trans (by repeat (first | (with_reducible first | exact HK.out | apply KeepBut.set_ | apply keep_drewN | apply keep_drew | apply keep_alloc) | exact HK.out)) hk (.inl rfl)); have n1_ := mz (hb); have n2_ := mz (hi); clear HK; clear HB; clear HI0; have HK := n0_; have HB := n1_; have HI0 := n2_; clear n0_ n1_ n2_; (try clear hb); (try clear hb2); (try clear hk); (try clear hi); have p13 : 0 ≤ (t107 : Int) := of_decide_eq_true (by first | (with_reducible assumption) | assumption); have q13 : t107 < (a2.size : Int) := of_decide_eq_true (by first | (with_reducible assumption) | assumption); have hx13 := bt_at a2 t107; replace p13 := eq_true p13; replace q13 := eq_true q13) | ((with_reducible refine gate_dst (N := 31) rfl ?_); (try (refine gate_guard (by rfl) ?_; dsimp only)); refine Kd.R_lit (Kd.int .u8) _ 5 ?hg (N := 31) ?hd (xs := ([bt a2 t107] : List Int)) (inner := [.int .u8 (bt a2 t107)]) (ok := fun _ => True) (okp := fun _ => True) ?hr ?hp (fun _ hk => hk) trivial (Below.refl _ _) (Nat.le_refl _) (by simp) ?_; (case hd => rfl); (case hg => rfl); (case hr => first | (go_simp; done) | (go_simp; rfl)); (case hp => exact (Reps.one (show Kd.M (Kd.int .u8) _ _ _ (bt a2 t107) [.int .u8 (bt a2 t107)] from rfl) (Reps.none _ _))); intro v111 w50 ho51 hb hg_ hnew_; clear hg_ hnew_; (first | rw [← Ny110.out] at ho51 | (simp only [Int.reduceToNat] at ho51; rw [← Ny110.out] at ho51)); have n0_ := mz (Kd.R_lower ho51 (keep_size (w := w) (g := g) (row := none) (by repeat (first | (with_reducible first | exact HK.out | apply KeepBut.set_ | apply keep_drewN | apply keep_drew | apply keep_alloc) | exact HK.out)))); have n1_ := mz (IsS55.below (by repeat (first | (with_reducible first | exact HI0.out | apply IsS55.alloc | apply IsS55.drewN | apply IsS55.drew | apply IsS55.set_1 | apply IsS55.set_2) | exact HI0.out)) hb); have n2_ := mz (KeepBut.trans (by repeat (first | (with_reducible first | exact HK.out | apply KeepBut.set_ | apply keep_drewN | apply keep_drew | apply keep_alloc) | exact HK.out)) (KeepBut.of_below hb g none) (.inl rfl)); have n3_ := mz (below_step (by repeat (first | (with_reducible first | exact HB.out | apply below_alloc | apply pw_below_drewN | apply below_drew1 | refine below_set ?_ (IsS55.ge HI0.out)) | exact HB.out)) hb); clear HI0; clear HK; clear HB; have HO112 := n0_; have HI0 := n1_; have HK := n2_; have HB := n3_; clear n0_ n1_ n2_ n3_; clear hb ho51; have hcv52 := own_string (P := Try.prog) Try.underlying22 Try.underlying5 Try.underlying9 (Kd.own_of_R HO112.out)) | (go_at_call 29; (with_reducible refine (spec_l1Cur_pick.calls g s0_0 t108 t109 3 t113 t114 t115 w0 _ ?side1 ?side2 A14.out).mono ?_); (case side1 => repeat (first | (with_reducible first | exact HI0.out | apply IsS55.alloc | apply IsS55.drewN | apply IsS55.drew | apply IsS55.set_1 | apply IsS55.set_2) | exact HI0.out)); (case side2 => repeat (first | (with_reducible first | exact HB.out | apply below_alloc | apply pw_below_drewN | apply below_drew1 | refine below_set ?_ (IsS55.ge HI0.out)) | exact HB.out)); rintro e w53 ⟨rfl, hi, hb, hk⟩; have n0_ := mz (Kd.R_mono (Kd.R_keep (IsS55.apart (show IsS55 w0 _ g s0_0 t108 t109 from by repeat (first | (with_reducible first | exact HI0.out | apply IsS55.alloc | apply IsS55.drewN | apply IsS55.drew | apply IsS55.set_1 | apply IsS55.set_2) | exact HI0.out)) (by (with_reducible repeat (first | apply Kd.R_alloc | apply Kd.R_drewN | apply Kd.R_drew)); exact HO112.out) (by decide)) hk (fun _ h => h.2)) (fun _ h => h.1)); have n1_ := mz (KeepBut.trans (by repeat (first | (with_reducible first | exact HK.out | apply KeepBut.set_ | apply keep_drewN | apply keep_drew | apply keep_alloc) | exact HK.out)) hk (.inl rfl)); have n2_ := mz (hb); have n3_ := mz (hi); clear HO112; clear HK; clear HB; clear HI0; have HO112 := n0_; have HK := n1_; have HB := n2_; have HI0 := n3_; clear n0_ n1_ n2_ n3_; (try clear hb); (try clear hb2); (try clear hk); (try clear hi)))
                              repeat (go_quiet (first | (go_at_call 29; (with_reducible refine (spec_l1Cur_pick.calls g s0_0 x1001_1 x1002_1 (x1_1.size : Int) t104 t105 t106 w0 _ ?side1 ?side2 A9.out).mono ?_); (case side1 => repeat (first | (with_reducible first | exact HI0.out | apply IsS55.alloc | apply IsS55.drewN | apply IsS55.drew | apply IsS55.set_1 | apply IsS55.set_2) | exact HI0.out)); (case side2 => repeat (first | (with_reducible first | exact HB.out | apply below_alloc | apply pw_below_drewN | apply below_drew1 | refine below_set ?_ (IsS55.ge HI0.out)) | exact HB.out)); rintro e w48 ⟨rfl, hi, hb, hk⟩; have n0_ := mz (KeepBut.trans (by repeat (first | (with_reducible first | exact HK.out | apply KeepBut.set_ | apply keep_drewN | apply keep_drew | apply keep_alloc) | exact HK.out)) hk (.inl rfl)); have n1_ := mz (hb); have n2_ := mz (hi); clear HK; clear HB; clear HI0; have HK := n0_; have HB := n1_; have HI0 := n2_; clear n0_ n1_ n2_; (try clear hb); (try clear hb2); (try clear hk); (try clear hi)) | (go_at_call 29; (with_reducible refine (spec_l1Cur_pick.calls g s0_0 t105 t106 (a2.size : Int) t107 t108 t109 w0 _ ?side1 ?side2 A10.out).mono ?_); (case side1 => repeat (first | (with_reducible first | exact HI0.out | apply IsS55.alloc | apply IsS55.drewN | apply IsS55.drew | apply IsS55.set_1 | apply IsS55.set_2) | exact HI0.out)); (case side2 => repeat (first | (with_reducible first | exact HB.out | apply below_alloc | apply pw_below_drewN | apply below_drew1 | refine below_set ?_ (IsS55.ge HI0.out)) | exact HB.out)); rintro e w49 ⟨rfl, hi, hb, hk⟩; have n0_ := mz (KeepBut.trans (by repeat (first | (with_reducible first | exact HK.out | apply KeepBut.set_ | apply keep_drewN | apply keep_drew | apply keep_alloc) | exact HK.out)) hk (.inl rfl)); have n1_ := mz (hb); have n2_ := mz (hi); clear HK; clear HB; clear HI0; have HK := n0_; have HB := n1_; have HI0 := n2_; clear n0_ n1_ n2_; (try clear hb); (try clear hb2); (try clear hk); (try clear hi); have p13 : 0 ≤ (t107 : Int) := of_decide_eq_true (by first | (with_reducible assumption) | assumption); have q13 : t107 < (a2.size : Int) := of_decide_eq_true (by first | (with_reducible assumption) | assumption); have hx13 := bt_at a2 t107; replace p13 := eq_true p13; replace q13 := eq_true q13) | ((with_reducible refine gate_dst (N := 31) rfl ?_); (try (refine gate_guard (by rfl) ?_; dsimp only)); refine Kd.R_lit (Kd.int .u8) _ 5 ?hg (N := 31) ?hd (xs := ([bt a2 t107] : List Int)) (inner := [.int .u8 (bt a2 t107)]) (ok := fun _ => True) (okp := fun _ => True) ?hr ?hp (fun _ hk => hk) trivial (Below.refl _ _) (Nat.le_refl _) (by simp) ?_; (case hd => rfl); (case hg => rfl); (case hr => first | (go_simp; done) | (go_simp; rfl)); (case hp => exact (Reps.one (show Kd.M (Kd.int .u8) _ _ _ (bt a2 t107) [.int .u8 (bt a2 t107)] from rfl) (Reps.none _ _))); intro v111 w50 ho51 hb hg_ hnew_; clear hg_ hnew_; (first | rw [← Ny110.out] at ho51 | (simp only [Int.reduceToNat] at ho51; rw [← Ny110.out] at ho51)); have n0_ := mz (Kd.R_lower ho51 (keep_size (w := w) (g := g) (row := none) (by repeat (first | (with_reducible first | exact HK.out | apply KeepBut.set_ | apply keep_drewN | apply keep_drew | apply keep_alloc) | exact HK.out)))); have n1_ := mz (IsS55.below (by repeat (first | (with_reducible first | exact HI0.out | apply IsS55.alloc | apply IsS55.drewN | apply IsS55.drew | apply IsS55.set_1 | apply IsS55.set_2) | exact HI0.out)) hb); have n2_ := mz (KeepBut.trans (by repeat (first | (with_reducible first | exact HK.out | apply KeepBut.set_ | apply keep_drewN | apply keep_drew | apply keep_alloc) | exact HK.out)) (KeepBut.of_below hb g none) (.inl rfl)); have n3_ := mz (below_step (by repeat (first | (with_reducible first | exact HB.out | apply below_alloc | apply pw_below_drewN | apply below_drew1 | refine below_set ?_ (IsS55.ge HI0.out)) | exact HB.out)) hb); clear HI0; clear HK; clear HB; have HO112 := n0_; have HI0 := n1_; have HK := n2_; have HB := n3_; clear n0_ n1_ n2_ n3_; clear hb ho51; have hcv52 := own_string (P := Try.prog) Try.underlying22 Try.underlying5 Try.underlying9 (Kd.own_of_R HO112.out)) | (go_at_call 29; (with_reducible refine (spec_l1Cur_pick.calls g s0_0 t108 t109 3 t113 t114 t115 w0 _ ?side1 ?side2 A14.out).mono ?_); (case side1 => repeat (first | (with_reducible first | exact HI0.out | apply IsS55.alloc | apply IsS55.drewN | apply IsS55.drew | apply IsS55.set_1 | apply IsS55.set_2) | exact HI0.out)); (case side2 => repeat (first | (with_reducible first | exact HB.out | apply below_alloc | apply pw_below_drewN | apply below_drew1 | refine below_set ?_ (IsS55.ge HI0.out)) | exact HB.out)); rintro e w53 ⟨rfl, hi, hb, hk⟩; have n0_ := mz (Kd.R_mono (Kd.R_keep (IsS55.apart (show IsS55 w0 _ g s0_0 t108 t109 from by repeat (first | (with_reducible first | exact HI0.out | apply IsS55.alloc | apply IsS55.drewN | apply IsS55.drew | apply IsS55.set_1 | apply IsS55.set_2) | exact HI0.out)) (by (with_reducible repeat (first | apply Kd.R_alloc | apply Kd.R_drewN | apply Kd.R_drew)); exact HO112.out) (by decide)) hk (fun _ h => h.2)) (fun _ h => h.1)); have n1_ := mz (KeepBut.trans (by repeat (first | (with_reducible first | exact HK.out | apply KeepBut.set_ | apply keep_drewN | apply keep_drew | apply keep_alloc) | exact HK.out)) hk (.inl rfl)); have n2_ := mz (hb); have n3_ := mz (hi); clear HO112; clear HK; clear HB; clear HI0; have HO112 := n0_; have HK := n1_; have HB := n2_; have HI0 := n3_; clear n0_ n1_ n2_ n3_; (try clear hb); (try clear hb2); (try clear hk); (try clear hi))); try go_wp2_with (first | (go_at_call 29; (with_reducible refine (spec_l1Cur_pick.calls g s0_0 x1001_1 x1002_1 (x1_1.size : Int) t104 t105 t106 w0 _ ?side1 ?side2 A9.out).mono ?_); (case side1 => repeat (first | (with_reducible first | exact HI0.out | apply IsS55.alloc | apply IsS55.drewN | apply IsS55.drew | apply IsS55.set_1 | apply IsS55.set_2) | exact HI0.out)); (case side2 => repeat (first | (with_reducible first | exact HB.out | apply below_alloc | apply pw_below_drewN | apply below_drew1 | refine below_set ?_ (IsS55.ge HI0.out)) | exact HB.out)); rintro e w48 ⟨rfl, hi, hb, hk⟩; have n0_ := mz (KeepBut.trans (by repeat (first | (with_reducible first | exact HK.out | apply KeepBut.set_ | apply keep_drewN | apply keep_drew | apply keep_alloc) | exact HK.out)) hk (.inl rfl)); have n1_ := mz (hb); have n2_ := mz (hi); clear HK; clear HB; clear HI0; have HK := n0_; have HB := n1_; have HI0 := n2_; clear n0_ n1_ n2_; (try clear hb); (try clear hb2); (try clear hk); (try clear hi)) | (go_at_call 29; (with_reducible refine (spec_l1Cur_pick.calls g s0_0 t105 t106 (a2.size : Int) t107 t108 t109 w0 _ ?side1 ?side2 A10.out).mono ?_); (case side1 => repeat (first | (with_reducible first | exact HI0.out | apply IsS55.alloc | apply IsS55.drewN | apply IsS55.drew | apply IsS55.set_1 | apply IsS55.set_2) | exact HI0.out)); (case side2 => repeat (first | (with_reducible first | exact HB.out | apply below_alloc | apply pw_below_drewN | apply below_drew1 | refine below_set ?_ (IsS55.ge HI0.out)) | exact HB.out)); rintro e w49 ⟨rfl, hi, hb, hk⟩; have n0_ := mz (KeepBut.trans (by repeat (first | (with_reducible first | exact HK.out | apply KeepBut.set_ | apply keep_drewN | apply keep_drew | apply keep_alloc) | exact HK.out)) hk (.inl rfl)); have n1_ := mz (hb); have n2_ := mz (hi); clear HK; clear HB; clear HI0; have HK := n0_; have HB := n1_; have HI0 := n2_; clear n0_ n1_ n2_; (try clear hb); (try clear hb2); (try clear hk); (try clear hi); have p13 : 0 ≤ (t107 : Int) := of_decide_eq_true (by first | (with_reducible assumption) | assumption); have q13 : t107 < (a2.size : Int) := of_decide_eq_true (by first | (with_reducible assumption) | assumption); have hx13 := bt_at a2 t107; replace p13 := eq_true p13; replace q13 := eq_true q13) | ((with_reducible refine gate_dst (N := 31) rfl ?_); (try (refine gate_guard (by rfl) ?_; dsimp only)); refine Kd.R_lit (Kd.int .u8) _ 5 ?hg (N := 31) ?hd (xs := ([bt a2 t107] : List Int)) (inner := [.int .u8 (bt a2 t107)]) (ok := fun _ => True) (okp := fun _ => True) ?hr ?hp (fun _ hk => hk) trivial (Below.refl _ _) (Nat.le_refl _) (by simp) ?_; (case hd => rfl); (case hg => rfl); (case hr => first | (go_simp; done) | (go_simp; rfl)); (case hp => exact (Reps.one (show Kd.M (Kd.int .u8) _ _ _ (bt a2 t107) [.int .u8 (bt a2 t107)] from rfl) (Reps.none _ _))); intro v111 w50 ho51 hb hg_ hnew_; clear hg_ hnew_; (first | rw [← Ny110.out] at ho51 | (simp only [Int.reduceToNat] at ho51; rw [← Ny110.out] at ho51)); have n0_ := mz (Kd.R_lower ho51 (keep_size (w := w) (g := g) (row := none) (by repeat (first | (with_reducible first | exact HK.out | apply KeepBut.set_ | apply keep_drewN | apply keep_drew | apply keep_alloc) | exact HK.out)))); have n1_ := mz (IsS55.below (by repeat (first | (with_reducible first | exact HI0.out | apply IsS55.alloc | apply IsS55.drewN | apply IsS55.drew | apply IsS55.set_1 | apply IsS55.set_2) | exact HI0.out)) hb); have n2_ := mz (KeepBut.trans (by repeat (first | (with_reducible first | exact HK.out | apply KeepBut.set_ | apply keep_drewN | apply keep_drew | apply keep_alloc) | exact HK.out)) (KeepBut.of_below hb g none) (.inl rfl)); have n3_ := mz (below_step (by repeat (first | (with_reducible first | exact HB.out | apply below_alloc | apply pw_below_drewN | apply below_drew1 | refine below_set ?_ (IsS55.ge HI0.out)) | exact HB.out)) hb); clear HI0; clear HK; clear HB; have HO112 := n0_; have HI0 := n1_; have HK := n2_; have HB := n3_; clear n0_ n1_ n2_ n3_; clear hb ho51; have hcv52 := own_string (P := Try.prog) Try.underlying22 Try.underlying5 Try.underlying9 (Kd.own_of_R HO112.out)) | (go_at_call 29; (with_reducible refine (spec_l1Cur_pick.calls g s0_0 t108 t109 3 t113 t114 t115 w0 _ ?side1 ?side2 A14.out).mono ?_); (case side1 => repeat (first | (with_reducible first | exact HI0.out | apply IsS55.alloc | apply IsS55.drewN | apply IsS55.drew | apply IsS55.set_1 | apply IsS55.set_2) | exact HI0.out)); (case side2 => repeat (first | (with_reducible first | exact HB.out | apply below_alloc | apply pw_below_drewN | apply below_drew1 | refine below_set ?_ (IsS55.ge HI0.out)) | exact HB.out)); rintro e w53 ⟨rfl, hi, hb, hk⟩; have n0_ := mz (Kd.R_mono (Kd.R_keep (IsS55.apart (show IsS55 w0 _ g s0_0 t108 t109 from by repeat (first | (with_reducible first | exact HI0.out | apply IsS55.alloc | apply IsS55.drewN | apply IsS55.drew | apply IsS55.set_1 | apply IsS55.set_2) | exact HI0.out)) (by (with_reducible repeat (first | apply Kd.R_alloc | apply Kd.R_drewN | apply Kd.R_drew)); exact HO112.out) (by decide)) hk (fun _ h => h.2)) (fun _ h => h.1)); have n1_ := mz (KeepBut.trans (by repeat (first | (with_reducible first | exact HK.out | apply KeepBut.set_ | apply keep_drewN | apply keep_drew | apply keep_alloc) | exact HK.out)) hk (.inl rfl)); have n2_ := mz (hb); have n3_ := mz (hi); clear HO112; clear HK; clear HB; clear HI0; have HO112 := n0_; have HK := n1_; have HB := n2_; have HI0 := n3_; clear n0_ n1_ n2_ n3_; (try clear hb); (try clear hb2); (try clear hk); (try clear hi))))
                              go_roundg kj5
                              case measure => have := HK1.out; have := HJ5.out; omega
                              case rel => exact ⟨((x1_1.extract 0 (t104 : Int).toNat) ++ (x1_1.extract ((ji44) : Int).toNat x1_1.size)), (wrap64 (x7_1 - 1)), (t114), (t115), (by first | rfl | (simp; done) | (simp only [← hji44] <;> (first | rfl | simp)) | (simp [*]; done)), (by first | rfl | (simp; done) | (simp [*]; done)), (by first | exact H' | (simp only [hji44]; exact H') | (subst hji44; exact H')), ⟨by have := HK1.out; have := HJ5.out; omega⟩, ⟨by repeat (first | (with_reducible first | exact HI0.out | apply IsS55.alloc | apply IsS55.drewN | apply IsS55.drew | apply IsS55.set_1 | apply IsS55.set_2) | exact HI0.out)⟩, ⟨by repeat (first | (with_reducible first | exact HK.out | apply KeepBut.set_ | apply keep_drewN | apply keep_drew | apply keep_alloc) | exact HK.out)⟩, ⟨by repeat (first | (with_reducible first | exact HB.out | apply below_alloc | apply pw_below_drewN | apply below_drew1 | refine below_set ?_ (IsS55.ge HI0.out)) | exact HB.out)⟩⟩
                            · rw [if_neg c47] at H
                              exact absurd H (by simp)
                          · rw [if_neg c46] at H
                            exact absurd H (by simp)
                        · rw [if_neg c45] at H
                          exact absurd H (by simp)
                      · rw [if_neg c43] at H
                        exact absurd H (by simp)
                    · rw [if_neg c42] at H
                      exact absurd H (by simp)
              · rw [if_neg c12] at H
                exact absurd H (by simp)
            · rw [if_neg c11] at H
              exact absurd H (by simp)
          · replace c8 := Bool.eq_false_iff.mpr c8
            subst c8
            have H1 : (some (x1_1, x1001_1, x1002_1)) = some (r1, r2, r3) := by rw [if_neg (show ¬ (false = true) by decide)] at H; exact H
            clear H
            have H := H1
            clear H1
            simp only [Option.some.injEq, Prod.mk.injEq] at H
            obtain ⟨rfl, rfl, rfl⟩ := H
            go_wp2
            repeat (go_quiet (fail); try go_wp2)
            go_ret
            exact ⟨by first | rfl | (simp [errW_none, errW_some] <;> rfl) | (simp [*, errW_none, errW_some] <;> rfl), by repeat (first | (with_reducible first | exact HI0.out | apply IsS55.alloc | apply IsS55.drewN | apply IsS55.drew | apply IsS55.set_1 | apply IsS55.set_2) | exact HI0.out), by repeat (first | (with_reducible first | exact HB.out | apply below_alloc | apply pw_below_drewN | apply below_drew1 | refine below_set ?_ (IsS55.ge HI0.out)) | exact HB.out), by repeat (first | (with_reducible first | exact HK.out | apply KeepBut.set_ | apply keep_drewN | apply keep_drew | apply keep_alloc) | exact HK.out)⟩
end
section
attribute [local go_sem] max2_int min2_int max_two min_two max_three min_three max_four min_four
def spec_l1Cur_doc.j0 : Nat → ByteArray → List Int → Int → Int → Option (ByteArray × Int × Int)
  | 0, _, _, _, _ => none
  | k + 1, x3, x1000, x1001, x1002 => (spec_l1Cur_one.f x1000 x1001 x1002 12).bind fun bt119 => (if bt119.1 = true then ((spec_l1Cur_spoilt.f k x1000 bt119.2.1 bt119.2.2 x3 (⟨#[65, 47, 97, 90]⟩ : ByteArray)).bind fun bt122 => (some (bt122.1, bt122.2.1, bt122.2.2))) else (some (x3, bt119.2.1, bt119.2.2)))
def spec_l1Cur_doc.f (k : Nat) (s0_0 : List Int) (s0_1 : Int) (s0_2 : Int) : Option (ByteArray × Int × Int) := (spec_l1Cur_pick.f s0_0 s0_1 s0_2 7).bind fun bt101 => ((spec_l1Cur_inner.f k s0_0 bt101.2.1 bt101.2.2 bt101.1 3).bind fun bt104 => ((spec_l1Cur_pick.f s0_0 bt104.2.1 bt104.2.2 30).bind fun bt107 => (if bt107.1 = 0 then ((spec_l1Cur_inner.f k s0_0 bt107.2.1 bt107.2.2 60 3).bind fun bt110 => (spec_l1Cur_doc.j0 k bt110.1 s0_0 bt110.2.1 bt110.2.2)) else (if bt107.1 = 1 then ((spec_l1Cur_of.f s0_0 bt107.2.1 bt107.2.2 (([(⟨#[65, 65, 65, 65, 65, 65, 65, 65, 65, 65, 65, 65, 47, 47, 47, 47, 47, 47, 47, 47, 47, 47, 47, 47]⟩ : ByteArray), (⟨#[65, 65, 65, 65, 65, 65, 65, 65, 65, 65, 65, 65, 65, 47, 47, 47, 47, 47, 47, 47, 47, 47, 47, 47, 47, 47]⟩ : ByteArray)] : List ByteArray))).bind fun bt116 => (spec_l1Cur_doc.j0 k bt116.1 s0_0 bt116.2.1 bt116.2.2)) else (spec_l1Cur_doc.j0 k bt104.1 s0_0 bt107.2.1 bt107.2.2)))))
set_option maxHeartbeats 8000000 in
set_option maxRecDepth 100000 in
theorem spec_l1Cur_doc.calls (k : Nat) (g : Nat) (s0_0 : List Int) (s0_1 : Int) (s0_2 : Int) (r1 : ByteArray) (r2 : Int) (r3 : Int) (w0 w : World) (hI : IsS55 w0 w g s0_0 s0_1 s0_2) (hB : Below w0.heap.size w0 w) (h : spec_l1Cur_doc.f k s0_0 s0_1 s0_2 = some (r1, r2, r3)) :
    Calls Try.prog 41 #[.pointer (some ⟨g, 0, none⟩)] w fun e w' => e = .returned (.string r1) ∧ IsS55 w0 w' g s0_0 r2 r3 ∧ Below w0.heap.size w0 w' ∧ KeepBut w w' g none := by
  have HI0 := mz hI
  have HK := mz (KeepBut.refl w g none)
  have HL := mz hB.size
  clear hI
  have HW0 := mz hB.size
  have HB := mz hB
  clear hB
  have H : ((spec_l1Cur_pick.f s0_0 s0_1 s0_2 7).bind fun bt101 => ((spec_l1Cur_inner.f k s0_0 bt101.2.1 bt101.2.2 bt101.1 3).bind fun bt104 => ((spec_l1Cur_pick.f s0_0 bt104.2.1 bt104.2.2 30).bind fun bt107 => (if bt107.1 = 0 then ((spec_l1Cur_inner.f k s0_0 bt107.2.1 bt107.2.2 60 3).bind fun bt110 => (spec_l1Cur_doc.j0 k bt110.1 s0_0 bt110.2.1 bt110.2.2)) else (if bt107.1 = 1 then ((spec_l1Cur_of.f s0_0 bt107.2.1 bt107.2.2 (([(⟨#[65, 65, 65, 65, 65, 65, 65, 65, 65, 65, 65, 65, 47, 47, 47, 47, 47, 47, 47, 47, 47, 47, 47, 47]⟩ : ByteArray), (⟨#[65, 65, 65, 65, 65, 65, 65, 65, 65, 65, 65, 65, 65, 47, 47, 47, 47, 47, 47, 47, 47, 47, 47, 47, 47, 47]⟩ : ByteArray)] : List ByteArray))).bind fun bt116 => (spec_l1Cur_doc.j0 k bt116.1 s0_0 bt116.2.1 bt116.2.2)) else (spec_l1Cur_doc.j0 k bt104.1 s0_0 bt107.2.1 bt107.2.2)))))) = some (r1, r2, r3) := h
  clear h
  replace H := be0_ H
  obtain ⟨⟨t101, t102, t103⟩, A20, H⟩ := H
  replace H : ((spec_l1Cur_inner.f k s0_0 t102 t103 t101 3).bind fun bt104 => ((spec_l1Cur_pick.f s0_0 bt104.2.1 bt104.2.2 30).bind fun bt107 => (if bt107.1 = 0 then ((spec_l1Cur_inner.f k s0_0 bt107.2.1 bt107.2.2 60 3).bind fun bt110 => (spec_l1Cur_doc.j0 k bt110.1 s0_0 bt110.2.1 bt110.2.2)) else (if bt107.1 = 1 then ((spec_l1Cur_of.f s0_0 bt107.2.1 bt107.2.2 (([(⟨#[65, 65, 65, 65, 65, 65, 65, 65, 65, 65, 65, 65, 47, 47, 47, 47, 47, 47, 47, 47, 47, 47, 47, 47]⟩ : ByteArray), (⟨#[65, 65, 65, 65, 65, 65, 65, 65, 65, 65, 65, 65, 65, 47, 47, 47, 47, 47, 47, 47, 47, 47, 47, 47, 47, 47]⟩ : ByteArray)] : List ByteArray))).bind fun bt116 => (spec_l1Cur_doc.j0 k bt116.1 s0_0 bt116.2.1 bt116.2.2)) else (spec_l1Cur_doc.j0 k bt104.1 s0_0 bt107.2.1 bt107.2.2))))) = some (r1, r2, r3) := H
  have A2 := mz A20
  clear A20
  replace H := be0_ H
  obtain ⟨⟨t104, t105, t106⟩, A30, H⟩ := H
  replace H : ((spec_l1Cur_pick.f s0_0 t105 t106 30).bind fun bt107 => (if bt107.1 = 0 then ((spec_l1Cur_inner.f k s0_0 bt107.2.1 bt107.2.2 60 3).bind fun bt110 => (spec_l1Cur_doc.j0 k bt110.1 s0_0 bt110.2.1 bt110.2.2)) else (if bt107.1 = 1 then ((spec_l1Cur_of.f s0_0 bt107.2.1 bt107.2.2 (([(⟨#[65, 65, 65, 65, 65, 65, 65, 65, 65, 65, 65, 65, 47, 47, 47, 47, 47, 47, 47, 47, 47, 47, 47, 47]⟩ : ByteArray), (⟨#[65, 65, 65, 65, 65, 65, 65, 65, 65, 65, 65, 65, 65, 47, 47, 47, 47, 47, 47, 47, 47, 47, 47, 47, 47, 47]⟩ : ByteArray)] : List ByteArray))).bind fun bt116 => (spec_l1Cur_doc.j0 k bt116.1 s0_0 bt116.2.1 bt116.2.2)) else (spec_l1Cur_doc.j0 k t104 s0_0 bt107.2.1 bt107.2.2)))) = some (r1, r2, r3) := H
  have A3 := mz A30
  clear A30
  replace H := be0_ H
  obtain ⟨⟨t107, t108, t109⟩, A40, H⟩ := H
  replace H : (if t107 = 0 then ((spec_l1Cur_inner.f k s0_0 t108 t109 60 3).bind fun bt110 => (spec_l1Cur_doc.j0 k bt110.1 s0_0 bt110.2.1 bt110.2.2)) else (if t107 = 1 then ((spec_l1Cur_of.f s0_0 t108 t109 (([(⟨#[65, 65, 65, 65, 65, 65, 65, 65, 65, 65, 65, 65, 47, 47, 47, 47, 47, 47, 47, 47, 47, 47, 47, 47]⟩ : ByteArray), (⟨#[65, 65, 65, 65, 65, 65, 65, 65, 65, 65, 65, 65, 65, 47, 47, 47, 47, 47, 47, 47, 47, 47, 47, 47, 47, 47]⟩ : ByteArray)] : List ByteArray))).bind fun bt116 => (spec_l1Cur_doc.j0 k bt116.1 s0_0 bt116.2.1 bt116.2.2)) else (spec_l1Cur_doc.j0 k t104 s0_0 t108 t109))) = some (r1, r2, r3) := H
  have A4 := mz A40
  clear A40
  have HC5 := mz H
  clear H
  go_enter Try.func41, Try.ntmps41
  go_upto_block 0 with (first | ((with_reducible refine gate_callee (f := 29) rfl ?_); refine goesL_ (some 6) rfl rfl Try.func29 (by kernel_rfl) rfl #[.pointer (some ⟨g, 0, none⟩), .int .i64 7] rfl (by (try simp only [List.map_toArray, List.map_cons, List.map_nil]); first | done | rfl | (simp only [List.length_drop, List.length_take]; rfl)) ?_; (with_reducible refine (spec_l1Cur_pick.calls g s0_0 s0_1 s0_2 7 t101 t102 t103 w0 _ ?side1 ?side2 A2.out).mono ?_); (case side1 => repeat (first | (with_reducible first | exact HI0.out | apply IsS55.alloc | apply IsS55.drewN | apply IsS55.drew | apply IsS55.set_1 | apply IsS55.set_2) | exact HI0.out)); (case side2 => repeat (first | (with_reducible first | exact HB.out | apply below_alloc | apply pw_below_drewN | apply below_drew1 | refine below_set ?_ (IsS55.ge HI0.out)) | exact HB.out)); rintro e w6 ⟨rfl, hi, hb, hk⟩; refine ⟨_, rfl, ?_⟩; have n0_ := mz (KeepBut.trans (by repeat (first | (with_reducible first | exact HK.out | apply KeepBut.set_ | apply keep_drewN | apply keep_drew | apply keep_alloc) | exact HK.out)) hk (.inl rfl)); have n1_ := mz (hb); have n2_ := mz (hi); clear HK; clear HB; clear HI0; have HK := n0_; have HB := n1_; have HI0 := n2_; clear n0_ n1_ n2_; (try clear hb); (try clear hb2); (try clear hk); (try clear hi)) | ((with_reducible refine gate_callee (f := 60) rfl ?_); refine goesL_ (some 7) rfl rfl Try.func60 (by kernel_rfl) rfl #[.pointer (some ⟨g, 0, none⟩), .int .i64 t101, .int .i64 3] rfl (by (try simp only [List.map_toArray, List.map_cons, List.map_nil]); first | done | rfl | (simp only [List.length_drop, List.length_take]; rfl)) ?_; (with_reducible refine (spec_l1Cur_inner.calls k g s0_0 t102 t103 t101 3 t104 t105 t106 w0 _ ?side1 ?side2 A3.out).mono ?_); (case side1 => repeat (first | (with_reducible first | exact HI0.out | apply IsS55.alloc | apply IsS55.drewN | apply IsS55.drew | apply IsS55.set_1 | apply IsS55.set_2) | exact HI0.out)); (case side2 => repeat (first | (with_reducible first | exact HB.out | apply below_alloc | apply pw_below_drewN | apply below_drew1 | refine below_set ?_ (IsS55.ge HI0.out)) | exact HB.out)); rintro e w7 ⟨rfl, hi, hb, hk⟩; refine ⟨_, rfl, ?_⟩; have n0_ := mz (KeepBut.trans (by repeat (first | (with_reducible first | exact HK.out | apply KeepBut.set_ | apply keep_drewN | apply keep_drew | apply keep_alloc) | exact HK.out)) hk (.inl rfl)); have n1_ := mz (hb); have n2_ := mz (hi); clear HK; clear HB; clear HI0; have HK := n0_; have HB := n1_; have HI0 := n2_; clear n0_ n1_ n2_; (try clear hb); (try clear hb2); (try clear hk); (try clear hi)) | ((with_reducible refine gate_callee (f := 29) rfl ?_); refine goesL_ (some 9) rfl rfl Try.func29 (by kernel_rfl) rfl #[.pointer (some ⟨g, 0, none⟩), .int .i64 30] rfl (by (try simp only [List.map_toArray, List.map_cons, List.map_nil]); first | done | rfl | (simp only [List.length_drop, List.length_take]; rfl)) ?_; (with_reducible refine (spec_l1Cur_pick.calls g s0_0 t105 t106 30 t107 t108 t109 w0 _ ?side1 ?side2 A4.out).mono ?_); (case side1 => repeat (first | (with_reducible first | exact HI0.out | apply IsS55.alloc | apply IsS55.drewN | apply IsS55.drew | apply IsS55.set_1 | apply IsS55.set_2) | exact HI0.out)); (case side2 => repeat (first | (with_reducible first | exact HB.out | apply below_alloc | apply pw_below_drewN | apply below_drew1 | refine below_set ?_ (IsS55.ge HI0.out)) | exact HB.out)); rintro e w8 ⟨rfl, hi, hb, hk⟩; refine ⟨_, rfl, ?_⟩; have n0_ := mz (KeepBut.trans (by repeat (first | (with_reducible first | exact HK.out | apply KeepBut.set_ | apply keep_drewN | apply keep_drew | apply keep_alloc) | exact HK.out)) hk (.inl rfl)); have n1_ := mz (hb); have n2_ := mz (hi); clear HK; clear HB; clear HI0; have HK := n0_; have HB := n1_; have HI0 := n2_; clear n0_ n1_ n2_; (try clear hb); (try clear hb2); (try clear hk); (try clear hi)))
  (try simp only [Act.put, List.setIfInBounds_toArray, List.set_cons_zero, List.set_cons_succ])
  go_cut [3] (fun v3 wc => ∃ (kq : Nat) (x3_4 : ByteArray) (x1001_4 : Int) (x1002_4 : Int), v3 = .string x3_4 ∧ Aside0 (spec_l1Cur_doc.j0 kq x3_4 s0_0 x1001_4 x1002_4 = some (r1, r2, r3)) ∧ Aside0 (kq ≤ k) ∧ Aside0 (IsS55 w0 wc g s0_0 x1001_4 x1002_4) ∧ Aside0 (KeepBut w wc g none) ∧ Aside0 (Below w0.heap.size w0 wc))
  case first =>
    have H := HC5.out
    clear HC5
    by_cases c9 : t107 = 0
    · rw [if_pos c9] at H
      have c9b0 : (t107 == 0) = true := beq_iff_eq.mpr c9
      have c9b1 : (t107 != 0) = false := bne_eq_false_iff_eq.mpr c9
      clear c9
      (first | rw [c9b0] | (simp only [i64_w, i32_w]; rw [c9b0]) | skip)
      replace H := be0_ H
      obtain ⟨⟨t110, t111, t112⟩, A100, H⟩ := H
      replace H : (spec_l1Cur_doc.j0 k t110 s0_0 t111 t112) = some (r1, r2, r3) := H
      have A10 := mz A100
      clear A100
      have H' := mz H
      clear H
      go_wp2_with (first | ((with_reducible refine gate_callee (f := 60) rfl ?_); refine goesL_ (some 13) rfl rfl Try.func60 (by kernel_rfl) rfl #[.pointer (some ⟨g, 0, none⟩), .int .i64 60, .int .i64 3] rfl (by (try simp only [List.map_toArray, List.map_cons, List.map_nil]); first | done | rfl | (simp only [List.length_drop, List.length_take]; rfl)) ?_; (with_reducible refine (spec_l1Cur_inner.calls k g s0_0 t108 t109 60 3 t110 t111 t112 w0 _ ?side1 ?side2 A10.out).mono ?_); (case side1 => repeat (first | (with_reducible first | exact HI0.out | apply IsS55.alloc | apply IsS55.drewN | apply IsS55.drew | apply IsS55.set_1 | apply IsS55.set_2) | exact HI0.out)); (case side2 => repeat (first | (with_reducible first | exact HB.out | apply below_alloc | apply pw_below_drewN | apply below_drew1 | refine below_set ?_ (IsS55.ge HI0.out)) | exact HB.out)); rintro e w11 ⟨rfl, hi, hb, hk⟩; refine ⟨_, rfl, ?_⟩; have n0_ := mz (KeepBut.trans (by repeat (first | (with_reducible first | exact HK.out | apply KeepBut.set_ | apply keep_drewN | apply keep_drew | apply keep_alloc) | exact HK.out)) hk (.inl rfl)); have n1_ := mz (hb); have n2_ := mz (hi); clear HK; clear HB; clear HI0; have HK := n0_; have HB := n1_; have HI0 := n2_; clear n0_ n1_ n2_; (try clear hb); (try clear hb2); (try clear hk); (try clear hi)))
      go_meet
      case rel => exact ⟨_, (t110), (t111), (t112), (by first | rfl | (simp; done) | (simp [*]; done)), H', ⟨by first | omega | exact Nat.le_refl _⟩, ⟨by repeat (first | (with_reducible first | exact HI0.out | apply IsS55.alloc | apply IsS55.drewN | apply IsS55.drew | apply IsS55.set_1 | apply IsS55.set_2) | exact HI0.out)⟩, ⟨by repeat (first | (with_reducible first | exact HK.out | apply KeepBut.set_ | apply keep_drewN | apply keep_drew | apply keep_alloc) | exact HK.out)⟩, ⟨by repeat (first | (with_reducible first | exact HB.out | apply below_alloc | apply pw_below_drewN | apply below_drew1 | refine below_set ?_ (IsS55.ge HI0.out)) | exact HB.out)⟩⟩
    · rw [if_neg c9] at H
      have c9b0 : (t107 == 0) = false := beq_eq_false_iff_ne.mpr c9
      have c9b1 : (t107 != 0) = true := bne_iff_ne.mpr c9
      (first | rw [c9b0] | (simp only [i64_w, i32_w]; rw [c9b0]) | skip)
      by_cases c12 : t107 = 1
      · rw [if_pos c12] at H
        have c12b0 : (t107 == 1) = true := beq_iff_eq.mpr c12
        have c12b1 : (t107 != 1) = false := bne_eq_false_iff_eq.mpr c12
        clear c12
        obtain ⟨y113, hy113⟩ : ∃ y_ : List ByteArray, y_ = (([(⟨#[65, 65, 65, 65, 65, 65, 65, 65, 65, 65, 65, 65, 47, 47, 47, 47, 47, 47, 47, 47, 47, 47, 47, 47]⟩ : ByteArray), (⟨#[65, 65, 65, 65, 65, 65, 65, 65, 65, 65, 65, 65, 65, 47, 47, 47, 47, 47, 47, 47, 47, 47, 47, 47, 47, 47]⟩ : ByteArray)] : List ByteArray)) := ⟨_, rfl⟩
        replace H : ((spec_l1Cur_of.f s0_0 t108 t109 y113).bind fun bt116 => (spec_l1Cur_doc.j0 k bt116.1 s0_0 bt116.2.1 bt116.2.2)) = some (r1, r2, r3) := by first | (rw [hy113]; with_reducible exact H) | (have H2_ := (Option.bind_some _ _).symm.trans H; rw [hy113]; with_reducible exact H2_) | (have H2_ := (Option.bind_some _ _).symm.trans H; with_reducible exact H2_) | with_reducible exact H | (rw [hy113]; exact H) | exact H
        have Ny113 := mz hy113
        clear hy113
        replace H := be0_ H
        obtain ⟨⟨t116, t117, t118⟩, A130, H⟩ := H
        replace H : (spec_l1Cur_doc.j0 k t116 s0_0 t117 t118) = some (r1, r2, r3) := H
        have A13 := mz A130
        clear A130
        have H' := mz H
        clear H
        go_wp2_with (first | ((with_reducible refine gate_dst (N := 17) rfl ?_); refine Kd.R_lit Kd.string _ 9 ?hg (N := 17) ?hd (xs := ([(⟨#[65, 65, 65, 65, 65, 65, 65, 65, 65, 65, 65, 65, 47, 47, 47, 47, 47, 47, 47, 47, 47, 47, 47, 47]⟩ : ByteArray), (⟨#[65, 65, 65, 65, 65, 65, 65, 65, 65, 65, 65, 65, 65, 47, 47, 47, 47, 47, 47, 47, 47, 47, 47, 47, 47, 47]⟩ : ByteArray)] : List ByteArray)) (inner := [.string (⟨#[65, 65, 65, 65, 65, 65, 65, 65, 65, 65, 65, 65, 47, 47, 47, 47, 47, 47, 47, 47, 47, 47, 47, 47]⟩ : ByteArray), .string (⟨#[65, 65, 65, 65, 65, 65, 65, 65, 65, 65, 65, 65, 65, 47, 47, 47, 47, 47, 47, 47, 47, 47, 47, 47, 47, 47]⟩ : ByteArray)]) (ok := fun _ => True) (okp := fun _ => True) ?hr ?hp (fun _ hk => hk) trivial (Below.refl _ _) (Nat.le_refl _) (by simp) ?_; (case hd => rfl); (case hg => rfl); (case hr => first | (go_simp; done) | (go_simp; rfl)); (case hp => exact (Reps.one (show Kd.M Kd.string _ _ _ (⟨#[65, 65, 65, 65, 65, 65, 65, 65, 65, 65, 65, 65, 47, 47, 47, 47, 47, 47, 47, 47, 47, 47, 47, 47]⟩ : ByteArray) [.string (⟨#[65, 65, 65, 65, 65, 65, 65, 65, 65, 65, 65, 65, 47, 47, 47, 47, 47, 47, 47, 47, 47, 47, 47, 47]⟩ : ByteArray)] from rfl) (Reps.one (show Kd.M Kd.string _ _ _ (⟨#[65, 65, 65, 65, 65, 65, 65, 65, 65, 65, 65, 65, 65, 47, 47, 47, 47, 47, 47, 47, 47, 47, 47, 47, 47, 47]⟩ : ByteArray) [.string (⟨#[65, 65, 65, 65, 65, 65, 65, 65, 65, 65, 65, 65, 65, 47, 47, 47, 47, 47, 47, 47, 47, 47, 47, 47, 47, 47]⟩ : ByteArray)] from rfl) (Reps.none _ _)))); intro v114 w14 ho15 hb hg_ hnew_; clear hg_ hnew_; (first | rw [← Ny113.out] at ho15 | (simp only [Int.reduceToNat] at ho15; rw [← Ny113.out] at ho15)); have n0_ := mz (Kd.R_lower ho15 (keep_size (w := w) (g := g) (row := none) (by repeat (first | (with_reducible first | exact HK.out | apply KeepBut.set_ | apply keep_drewN | apply keep_drew | apply keep_alloc) | exact HK.out)))); have n1_ := mz (IsS55.below (by repeat (first | (with_reducible first | exact HI0.out | apply IsS55.alloc | apply IsS55.drewN | apply IsS55.drew | apply IsS55.set_1 | apply IsS55.set_2) | exact HI0.out)) hb); have n2_ := mz (KeepBut.trans (by repeat (first | (with_reducible first | exact HK.out | apply KeepBut.set_ | apply keep_drewN | apply keep_drew | apply keep_alloc) | exact HK.out)) (KeepBut.of_below hb g none) (.inl rfl)); have n3_ := mz (below_step (by repeat (first | (with_reducible first | exact HB.out | apply below_alloc | apply pw_below_drewN | apply below_drew1 | refine below_set ?_ (IsS55.ge HI0.out)) | exact HB.out)) hb); clear HI0; clear HK; clear HB; have HO115 := n0_; have HI0 := n1_; have HK := n2_; have HB := n3_; clear n0_ n1_ n2_ n3_; clear hb ho15; obtain ⟨Ao16, co16, eo16⟩ := Kd.R_slice HO115.out; subst eo16) | ((with_reducible refine gate_callee (f := 49) rfl ?_); refine goesL_ (some 18) rfl rfl Try.func49 (by kernel_rfl) rfl #[.pointer (some ⟨g, 0, none⟩), .slice Ao16 y113.length co16] rfl (by (try simp only [List.map_toArray, List.map_cons, List.map_nil]); first | done | rfl | (simp only [List.length_drop, List.length_take]; rfl)) ?_; (with_reducible refine (spec_l1Cur_of.calls g s0_0 t108 t109 _ _ y113 t116 t117 t118 w0 _ ?side1 ?side2 ?side3 ?side4 ?side5 A13.out).mono ?_); (case side1 => repeat (first | (with_reducible first | exact HI0.out | apply IsS55.alloc | apply IsS55.drewN | apply IsS55.drew | apply IsS55.set_1 | apply IsS55.set_2) | exact HI0.out)); (case side2 => repeat (first | (with_reducible first | exact HB.out | apply below_alloc | apply pw_below_drewN | apply below_drew1 | refine below_set ?_ (IsS55.ge HI0.out)) | exact HB.out)); (case side3 => repeat (first | exact (Kd.R_reads' HO115.out).2.2 | (with_reducible refine Kd.C_alloc ?_ _) | (with_reducible refine Kd.C_drewN ?_ _) | (with_reducible refine Kd.C_drew ?_))); (case side4 => exact (Kd.R_reads' HO115.out).2.1); (case side5 => exact far_slice (IsS55.own_ne HI0.out HO115.out (by decide))); rintro e w17 ⟨rfl, hi, hb, hk⟩; refine ⟨_, rfl, ?_⟩; have n0_ := mz (Kd.R_mono (Kd.R_keep (IsS55.apart (show IsS55 w0 _ g s0_0 t108 t109 from by repeat (first | (with_reducible first | exact HI0.out | apply IsS55.alloc | apply IsS55.drewN | apply IsS55.drew | apply IsS55.set_1 | apply IsS55.set_2) | exact HI0.out)) (by (with_reducible repeat (first | apply Kd.R_alloc | apply Kd.R_drewN | apply Kd.R_drew)); exact HO115.out) (by decide)) hk (fun _ h => h.2)) (fun _ h => h.1)); have n1_ := mz (KeepBut.trans (by repeat (first | (with_reducible first | exact HK.out | apply KeepBut.set_ | apply keep_drewN | apply keep_drew | apply keep_alloc) | exact HK.out)) hk (.inl rfl)); have n2_ := mz (hb); have n3_ := mz (hi); clear HO115; clear HK; clear HB; clear HI0; have HO115 := n0_; have HK := n1_; have HB := n2_; have HI0 := n3_; clear n0_ n1_ n2_ n3_; (try clear hb); (try clear hb2); (try clear hk); (try clear hi)))
        go_meet
        case rel => exact ⟨_, (t116), (t117), (t118), (by first | rfl | (simp; done) | (simp [*]; done)), H', ⟨by first | omega | exact Nat.le_refl _⟩, ⟨by repeat (first | (with_reducible first | exact HI0.out | apply IsS55.alloc | apply IsS55.drewN | apply IsS55.drew | apply IsS55.set_1 | apply IsS55.set_2) | exact HI0.out)⟩, ⟨by repeat (first | (with_reducible first | exact HK.out | apply KeepBut.set_ | apply keep_drewN | apply keep_drew | apply keep_alloc) | exact HK.out)⟩, ⟨by repeat (first | (with_reducible first | exact HB.out | apply below_alloc | apply pw_below_drewN | apply below_drew1 | refine below_set ?_ (IsS55.ge HI0.out)) | exact HB.out)⟩⟩
      · rw [if_neg c12] at H
        have c12b0 : (t107 == 1) = false := beq_eq_false_iff_ne.mpr c12
        have c12b1 : (t107 != 1) = true := bne_iff_ne.mpr c12
        have H' := mz H
        clear H
        go_wp2
        go_meet
        case rel => exact ⟨_, (t104), (t108), (t109), (by first | rfl | (simp; done) | (simp [*]; done)), H', ⟨by first | omega | exact Nat.le_refl _⟩, ⟨by repeat (first | (with_reducible first | exact HI0.out | apply IsS55.alloc | apply IsS55.drewN | apply IsS55.drew | apply IsS55.set_1 | apply IsS55.set_2) | exact HI0.out)⟩, ⟨by repeat (first | (with_reducible first | exact HK.out | apply KeepBut.set_ | apply keep_drewN | apply keep_drew | apply keep_alloc) | exact HK.out)⟩, ⟨by repeat (first | (with_reducible first | exact HB.out | apply below_alloc | apply pw_below_drewN | apply below_drew1 | refine below_set ?_ (IsS55.ge HI0.out)) | exact HB.out)⟩⟩
  case rest =>
    clear HC5
    try clear c1
    try clear c2
    try clear p2
    try clear c4
    try clear c6
    try clear c9
    try clear c9b0
    try clear c9b1
    try clear c12
    try clear c12b0
    try clear c12b1
    obtain ⟨kq, x3_4, x1001_4, x1002_4, rfl, HA, HJ4, HI0, HK, HB⟩ := hcut
    cases kq with
    | zero => exact absurd HA.out (by simp [spec_l1Cur_doc.j0])
    | succ kj4 =>
      have H := HA.out
      clear HA
      simp only [spec_l1Cur_doc.j0] at H
      replace H := be0_ H
      obtain ⟨⟨t119, t120, t121⟩, A180, H⟩ := H
      replace H : (if t119 = true then ((spec_l1Cur_spoilt.f kj4 s0_0 t120 t121 x3_4 (⟨#[65, 47, 97, 90]⟩ : ByteArray)).bind fun bt122 => (some (bt122.1, bt122.2.1, bt122.2.2))) else (some (x3_4, t120, t121))) = some (r1, r2, r3) := H
      have A18 := mz A180
      clear A180
      by_cases c19 : t119 = true
      · subst c19
        have H1 : ((spec_l1Cur_spoilt.f kj4 s0_0 t120 t121 x3_4 (⟨#[65, 47, 97, 90]⟩ : ByteArray)).bind fun bt122 => (some (bt122.1, bt122.2.1, bt122.2.2))) = some (r1, r2, r3) := by rw [if_pos rfl] at H; exact H
        clear H
        have H := H1
        clear H1
        replace H := be0_ H
        obtain ⟨⟨t122, t123, t124⟩, A200, H⟩ := H
        replace H : (some (t122, t123, t124)) = some (r1, r2, r3) := H
        have A20 := mz A200
        clear A200
        simp only [Option.some.injEq, Prod.mk.injEq] at H
        obtain ⟨rfl, rfl, rfl⟩ := H
        go_wp2_with (first | ((with_reducible refine gate_callee (f := 48) rfl ?_); refine goesL_ (some 20) rfl rfl Try.func48 (by kernel_rfl) rfl #[.pointer (some ⟨g, 0, none⟩), .int .i64 12] rfl (by (try simp only [List.map_toArray, List.map_cons, List.map_nil]); first | done | rfl | (simp only [List.length_drop, List.length_take]; rfl)) ?_; (with_reducible refine (spec_l1Cur_one.calls g s0_0 x1001_4 x1002_4 12 true t120 t121 w0 _ ?side1 ?side2 A18.out).mono ?_); (case side1 => repeat (first | (with_reducible first | exact HI0.out | apply IsS55.alloc | apply IsS55.drewN | apply IsS55.drew | apply IsS55.set_1 | apply IsS55.set_2) | exact HI0.out)); (case side2 => repeat (first | (with_reducible first | exact HB.out | apply below_alloc | apply pw_below_drewN | apply below_drew1 | refine below_set ?_ (IsS55.ge HI0.out)) | exact HB.out)); rintro e w21 ⟨rfl, hi, hb, hk⟩; refine ⟨_, rfl, ?_⟩; have n0_ := mz (KeepBut.trans (by repeat (first | (with_reducible first | exact HK.out | apply KeepBut.set_ | apply keep_drewN | apply keep_drew | apply keep_alloc) | exact HK.out)) hk (.inl rfl)); have n1_ := mz (hb); have n2_ := mz (hi); clear HK; clear HB; clear HI0; have HK := n0_; have HB := n1_; have HI0 := n2_; clear n0_ n1_ n2_; (try clear hb); (try clear hb2); (try clear hk); (try clear hi)) | ((with_reducible refine gate_callee (f := 61) rfl ?_); refine goesL_ (some 23) rfl rfl Try.func61 (by kernel_rfl) rfl #[.pointer (some ⟨g, 0, none⟩), .string x3_4, .string (⟨#[65, 47, 97, 90]⟩ : ByteArray)] rfl (by (try simp only [List.map_toArray, List.map_cons, List.map_nil]); first | done | rfl | (simp only [List.length_drop, List.length_take]; rfl)) ?_; (with_reducible refine (spec_l1Cur_spoilt.calls kj4 g s0_0 t120 t121 x3_4 (⟨#[65, 47, 97, 90]⟩ : ByteArray) t122 t123 t124 w0 _ ?side1 ?side2 A20.out).mono ?_); (case side1 => repeat (first | (with_reducible first | exact HI0.out | apply IsS55.alloc | apply IsS55.drewN | apply IsS55.drew | apply IsS55.set_1 | apply IsS55.set_2) | exact HI0.out)); (case side2 => repeat (first | (with_reducible first | exact HB.out | apply below_alloc | apply pw_below_drewN | apply below_drew1 | refine below_set ?_ (IsS55.ge HI0.out)) | exact HB.out)); rintro e w22 ⟨rfl, hi, hb, hk⟩; refine ⟨_, rfl, ?_⟩; have n0_ := mz (KeepBut.trans (by repeat (first | (with_reducible first | exact HK.out | apply KeepBut.set_ | apply keep_drewN | apply keep_drew | apply keep_alloc) | exact HK.out)) hk (.inl rfl)); have n1_ := mz (hb); have n2_ := mz (hi); clear HK; clear HB; clear HI0; have HK := n0_; have HB := n1_; have HI0 := n2_; clear n0_ n1_ n2_; (try clear hb); (try clear hb2); (try clear hk); (try clear hi)))
        go_ret
        exact ⟨by first | rfl | (simp [errW_none, errW_some] <;> rfl) | (simp [*, errW_none, errW_some] <;> rfl), by repeat (first | (with_reducible first | exact HI0.out | apply IsS55.alloc | apply IsS55.drewN | apply IsS55.drew | apply IsS55.set_1 | apply IsS55.set_2) | exact HI0.out), by repeat (first | (with_reducible first | exact HB.out | apply below_alloc | apply pw_below_drewN | apply below_drew1 | refine below_set ?_ (IsS55.ge HI0.out)) | exact HB.out), by repeat (first | (with_reducible first | exact HK.out | apply KeepBut.set_ | apply keep_drewN | apply keep_drew | apply keep_alloc) | exact HK.out)⟩
      · replace c19 := Bool.eq_false_iff.mpr c19
        subst c19
        have H1 : (some (x3_4, t120, t121)) = some (r1, r2, r3) := by rw [if_neg (show ¬ (false = true) by decide)] at H; exact H
        clear H
        have H := H1
        clear H1
        simp only [Option.some.injEq, Prod.mk.injEq] at H
        obtain ⟨rfl, rfl, rfl⟩ := H
        go_wp2_with (first | ((with_reducible refine gate_callee (f := 48) rfl ?_); refine goesL_ (some 20) rfl rfl Try.func48 (by kernel_rfl) rfl #[.pointer (some ⟨g, 0, none⟩), .int .i64 12] rfl (by (try simp only [List.map_toArray, List.map_cons, List.map_nil]); first | done | rfl | (simp only [List.length_drop, List.length_take]; rfl)) ?_; (with_reducible refine (spec_l1Cur_one.calls g s0_0 x1001_4 x1002_4 12 false t120 t121 w0 _ ?side1 ?side2 A18.out).mono ?_); (case side1 => repeat (first | (with_reducible first | exact HI0.out | apply IsS55.alloc | apply IsS55.drewN | apply IsS55.drew | apply IsS55.set_1 | apply IsS55.set_2) | exact HI0.out)); (case side2 => repeat (first | (with_reducible first | exact HB.out | apply below_alloc | apply pw_below_drewN | apply below_drew1 | refine below_set ?_ (IsS55.ge HI0.out)) | exact HB.out)); rintro e w23 ⟨rfl, hi, hb, hk⟩; refine ⟨_, rfl, ?_⟩; have n0_ := mz (KeepBut.trans (by repeat (first | (with_reducible first | exact HK.out | apply KeepBut.set_ | apply keep_drewN | apply keep_drew | apply keep_alloc) | exact HK.out)) hk (.inl rfl)); have n1_ := mz (hb); have n2_ := mz (hi); clear HK; clear HB; clear HI0; have HK := n0_; have HB := n1_; have HI0 := n2_; clear n0_ n1_ n2_; (try clear hb); (try clear hb2); (try clear hk); (try clear hi)))
        go_ret
        exact ⟨by first | rfl | (simp [errW_none, errW_some] <;> rfl) | (simp [*, errW_none, errW_some] <;> rfl), by repeat (first | (with_reducible first | exact HI0.out | apply IsS55.alloc | apply IsS55.drewN | apply IsS55.drew | apply IsS55.set_1 | apply IsS55.set_2) | exact HI0.out), by repeat (first | (with_reducible first | exact HB.out | apply below_alloc | apply pw_below_drewN | apply below_drew1 | refine below_set ?_ (IsS55.ge HI0.out)) | exact HB.out), by repeat (first | (with_reducible first | exact HK.out | apply KeepBut.set_ | apply keep_drewN | apply keep_drew | apply keep_alloc) | exact HK.out)⟩
end
section
attribute [local go_sem] max2_int min2_int max_two min_two max_three min_three max_four min_four
def spec_DrawWordsOf.f (k : Nat) (l0 : List Int) : Option (ByteArray) := (spec_l1Cur_doc.f k l0 0 0).bind fun bt102 => (some bt102.1)
set_option maxHeartbeats 8000000 in
set_option maxRecDepth 100000 in
theorem spec_DrawWordsOf.calls (k : Nat) (A0 : Option Addr) (c0 : Nat) (l0 : List Int) (r : ByteArray) (w : World) (hr0 : Kd.C (Kd.int .u8) w A0 l0.length l0) (hc0 : l0.length ≤ c0) (h : spec_DrawWordsOf.f k l0 = some r) :
    Calls Try.prog 19 #[.slice A0 l0.length c0] w fun e w' => e = .returned (.string r) ∧ Below w.heap.size w w' := by
  have hu55 := Try.underlying55
  have HR0 := mz hr0
  have HC0 := mz hc0
  clear hr0 hc0
  have HB := mz (Below.refl w.heap.size w)
  have H : ((spec_l1Cur_doc.f k l0 0 0).bind fun bt102 => (some bt102.1)) = some r := h
  clear h
  replace H := be0_ H
  obtain ⟨⟨t102, t103, t104⟩, A20, H⟩ := H
  replace H : (some t102) = some r := H
  have A2 := mz A20
  clear A20
  obtain rfl := Option.some.inj H
  go_enter Try.func19, Try.ntmps19
  go_wp2_with (first | ((with_reducible refine gate_dst (N := 6) rfl ?_); refine box_event ?hg (N := 6) ?hd (cs := #[.slice A0 l0.length c0, .int .i64 0, .int .u64 0]) (t := 55) ?hr ?_; (case hd => rfl); (case hg => rfl); (case hr => first | (go_simp; done) | (go_simp; rfl)); intro gb101 hg w3 hbox hb; have n0_ := mz (below_step (by repeat (first | (with_reducible first | exact HB.out | apply below_alloc | apply pw_below_drewN | apply below_drew1) | exact HB.out)) hb); have n1_ := mz ((by rw [hg]; exact (below_size (by repeat (first | (with_reducible first | exact HB.out | apply below_alloc | apply pw_below_drewN | apply below_drew1) | exact HB.out))) : w.heap.size ≤ gb101)); have n2_ := mz ((by rw [hg]; exact (below_size (by repeat (first | (with_reducible first | exact HB.out | apply below_alloc | apply pw_below_drewN | apply below_drew1) | exact HB.out))) : w.heap.size ≤ gb101)); have n3_ := mz ((show IsS55 w w3 gb101 l0 0 0 from ⟨_, _, hbox, (by rw [hg]; exact (below_size (by repeat (first | (with_reducible first | exact HB.out | apply below_alloc | apply pw_below_drewN | apply below_drew1) | exact HB.out))) : w.heap.size ≤ gb101), (by first | exact HR0.out | exact (Kd.C_below HR0.out (show Below w.heap.size w _ from Below.refl _ _)) | (refine ⟨rfl, by decide, fun h_ => absurd h_ (by decide)⟩))⟩)); clear HB; have HB := n0_; have GW101 := n1_; have GE101 := n2_; have HI101 := n3_; clear n0_ n1_ n2_ n3_; clear hb hbox hg) | ((with_reducible refine gate_callee (f := 41) rfl ?_); refine goesL_ (some 8) rfl rfl Try.func41 (by kernel_rfl) rfl #[.pointer (some ⟨gb101, 0, none⟩)] rfl (by (try simp only [List.map_toArray, List.map_cons, List.map_nil]); first | done | rfl | (simp only [List.length_drop, List.length_take]; rfl)) ?_; (with_reducible refine (spec_l1Cur_doc.calls k gb101 l0 0 0 t102 t103 t104 w _ ?side1 ?side2 A2.out).mono ?_); (case side1 => repeat (first | (with_reducible first | exact HI101.out | apply IsS55.alloc | apply IsS55.drewN | apply IsS55.drew | apply IsS55.set_1 | apply IsS55.set_2) | exact HI101.out)); (case side2 => repeat (first | (with_reducible first | exact HB.out | apply below_alloc | apply pw_below_drewN | apply below_drew1 | refine below_set ?_ (IsS55.ge HI101.out)) | exact HB.out)); rintro e w4 ⟨rfl, hi, hb, hk⟩; refine ⟨_, rfl, ?_⟩; have n0_ := mz (hb); have n1_ := mz (hi); clear HB; clear HI101; have HB := n0_; have HI101 := n1_; clear n0_ n1_; (try clear hb); (try clear hb2); (try clear hk); (try clear hi)))
  go_ret
  exact ⟨by first | rfl | (simp [errW_none, errW_some] <;> rfl) | (simp [*, errW_none, errW_some] <;> rfl), by repeat (first | (with_reducible first | exact HB.out | apply below_alloc | apply pw_below_drewN | apply below_drew1 | refine below_set ?_ (IsS55.ge HI101.out)) | exact HB.out)⟩
end
section
attribute [local go_sem] max2_int min2_int max_two min_two max_three min_three max_four min_four
def laws_sameTexts.l0 : Nat → List ByteArray → List ByteArray → Int → Int → Option (Bool)
  | 0, _, _, _, _ => none
  | k + 1, x0, x1, x12, x13 => if x13 < x12 then (if 0 ≤ x13 then (if x13 < (x0.length : Int) then (if x13 < (x1.length : Int) then (if (rdOf ByteArray.empty x0 x13).toList = (rdOf ByteArray.empty x1 x13).toList then (laws_sameTexts.l0 k x0 x1 x12 (wrap64 (x13 + 1))) else (some false)) else (none)) else (none)) else (none)) else (some true)
def laws_sameTexts.f (k : Nat) (l0 : List ByteArray) (l1 : List ByteArray) : Option (Bool) := if (l0.length : Int) = (l1.length : Int) then (laws_sameTexts.l0 k l0 l1 (l0.length : Int) 0) else (some false)
set_option maxHeartbeats 8000000 in
set_option maxRecDepth 100000 in
theorem laws_sameTexts.calls (k : Nat) (A0 : Option Addr) (c0 : Nat) (l0 : List ByteArray) (A1 : Option Addr) (c1 : Nat) (l1 : List ByteArray) (r : Bool) (w : World) (hr0 : Kd.C Kd.string w A0 l0.length l0) (hc0 : l0.length ≤ c0) (hr1 : Kd.C Kd.string w A1 l1.length l1) (hc1 : l1.length ≤ c1) (h : laws_sameTexts.f k l0 l1 = some r) :
    Calls Try.prog 8 #[.slice A0 l0.length c0, .slice A1 l1.length c1] w fun e w' => e = .returned (.bool r) ∧ Drawn0 w w' := by
  have HR0 := mz hr0
  have HC0 := mz hc0
  clear hr0 hc0
  have HR1 := mz hr1
  have HC1 := mz hc1
  clear hr1 hc1
  have H : (if (l0.length : Int) = (l1.length : Int) then (laws_sameTexts.l0 k l0 l1 (l0.length : Int) 0) else (some false)) = some r := h
  clear h
  by_cases c3 : (l0.length : Int) = (l1.length : Int)
  · rw [if_pos c3] at H
    have c3b0 : ((l0.length : Int) == (l1.length : Int)) = true := beq_iff_eq.mpr c3
    have c3b1 : ((l0.length : Int) != (l1.length : Int)) = false := bne_eq_false_iff_eq.mpr c3
    have c3b2 : (l0.length == l1.length) = true := by first | simpa using c3 | (simp at c3 ⊢; omega)
    clear c3
    have H' := mz H
    clear H
    go_enter Try.func8, Try.ntmps8
    go_wp2
    repeat (go_quiet (fail); try go_wp2)
    go_loopg [13] k (fun kq v13 w' => ∃ (x13_1 : Int), v13 = .int .i64 x13_1 ∧ Aside0 (laws_sameTexts.l0 kq l0 l1 (l0.length : Int) x13_1 = some r) ∧ Aside0 (kq ≤ k) ∧ Drawn0 w w')
    case atStart => exact ⟨(0), (by first | rfl | (simp; done) | (simp [*]; done)), H', ⟨Nat.le_refl _⟩, by repeat (first | exact Drawn0.refl _ | apply Drawn0.step)⟩
    case round =>
      clear H'
      try clear c1
      try clear p2
      try clear c3
      try clear c3b0
      try clear c3b1
      try clear c3b2
      obtain ⟨x13_1, rfl, HA, HK1, ⟨m1, rfl⟩⟩ := hrel
      cases gk with
      | zero => exact absurd HA.out (by simp [laws_sameTexts.l0])
      | succ k1 =>
        have H := HA.out
        clear HA
        simp only [laws_sameTexts.l0] at H
        by_cases c4 : x13_1 < (l0.length : Int)
        · rw [if_pos c4] at H
          have c4b0 : decide (x13_1 < (l0.length : Int)) = true := decide_eq_true c4
          clear c4
          by_cases c5 : 0 ≤ x13_1
          · rw [if_pos c5] at H
            have c5b0 : decide (0 ≤ x13_1) = true := decide_eq_true c5
            clear c5
            by_cases c6 : x13_1 < (l0.length : Int)
            · rw [if_pos c6] at H
              have c6b0 : decide (x13_1 < (l0.length : Int)) = true := decide_eq_true c6
              clear c6
              by_cases c7 : x13_1 < (l1.length : Int)
              · rw [if_pos c7] at H
                have c7b0 : decide (x13_1 < (l1.length : Int)) = true := decide_eq_true c7
                clear c7
                by_cases c8 : (rdOf ByteArray.empty l0 x13_1).toList = (rdOf ByteArray.empty l1 x13_1).toList
                · rw [if_pos c8] at H
                  have c8b0 : ((rdOf ByteArray.empty l0 x13_1).toList == (rdOf ByteArray.empty l1 x13_1).toList) = true := beq_iff_eq.mpr c8
                  have c8b1 : ((rdOf ByteArray.empty l0 x13_1).toList != (rdOf ByteArray.empty l1 x13_1).toList) = false := bne_eq_false_iff_eq.mpr c8
                  clear c8
                  have H' := mz H
                  clear H
                  have p101 : 0 ≤ (x13_1 : Int) := of_decide_eq_true (by first | (with_reducible assumption) | assumption)
                  have q101 : x13_1 < (l0.length : Int) := of_decide_eq_true (by first | (with_reducible assumption) | assumption)
                  obtain ⟨ad101, e101, hx101_0⟩ := Kd.at_string HR0.out x13_1 p101 q101
                  cases e101
                  replace p101 := eq_true p101
                  replace q101 := eq_true q101
                  have p102 : 0 ≤ (x13_1 : Int) := of_decide_eq_true (by first | (with_reducible assumption) | assumption)
                  have q102 : x13_1 < (l1.length : Int) := of_decide_eq_true (by first | (with_reducible assumption) | assumption)
                  obtain ⟨ad102, e102, hx102_0⟩ := Kd.at_string HR1.out x13_1 p102 q102
                  cases e102
                  replace p102 := eq_true p102
                  replace q102 := eq_true q102
                  go_wp2
                  repeat (go_quiet (fail); try go_wp2)
                  go_roundg k1
                  case measure => have := HK1.out; omega
                  case rel => exact ⟨(wrap64 (x13_1 + 1)), (by first | rfl | (simp; done) | (simp [*]; done)), H', ⟨by have := HK1.out; omega⟩, by repeat (first | exact Drawn0.refl _ | apply Drawn0.step)⟩
                · rw [if_neg c8] at H
                  have c8b0 : ((rdOf ByteArray.empty l0 x13_1).toList == (rdOf ByteArray.empty l1 x13_1).toList) = false := beq_eq_false_iff_ne.mpr c8
                  have c8b1 : ((rdOf ByteArray.empty l0 x13_1).toList != (rdOf ByteArray.empty l1 x13_1).toList) = true := bne_iff_ne.mpr c8
                  obtain rfl := Option.some.inj H
                  have p101 : 0 ≤ (x13_1 : Int) := of_decide_eq_true (by first | (with_reducible assumption) | assumption)
                  have q101 : x13_1 < (l0.length : Int) := of_decide_eq_true (by first | (with_reducible assumption) | assumption)
                  obtain ⟨ad101, e101, hx101_0⟩ := Kd.at_string HR0.out x13_1 p101 q101
                  cases e101
                  replace p101 := eq_true p101
                  replace q101 := eq_true q101
                  have p102 : 0 ≤ (x13_1 : Int) := of_decide_eq_true (by first | (with_reducible assumption) | assumption)
                  have q102 : x13_1 < (l1.length : Int) := of_decide_eq_true (by first | (with_reducible assumption) | assumption)
                  obtain ⟨ad102, e102, hx102_0⟩ := Kd.at_string HR1.out x13_1 p102 q102
                  cases e102
                  replace p102 := eq_true p102
                  replace q102 := eq_true q102
                  go_wp2
                  repeat (go_quiet (fail); try go_wp2)
                  go_ret
                  exact ⟨by first | rfl | (simp; done) | (simp [*]; done), by repeat (first | exact Drawn0.refl _ | apply Drawn0.step)⟩
              · rw [if_neg c7] at H
                exact absurd H (by simp)
            · rw [if_neg c6] at H
              exact absurd H (by simp)
          · rw [if_neg c5] at H
            exact absurd H (by simp)
        · rw [if_neg c4] at H
          have c4b0 : decide (x13_1 < (l0.length : Int)) = false := decide_eq_false c4
          clear c4
          obtain rfl := Option.some.inj H
          go_wp2
          repeat (go_quiet (fail); try go_wp2)
          go_ret
          exact ⟨by first | rfl | (simp; done) | (simp [*]; done), by repeat (first | exact Drawn0.refl _ | apply Drawn0.step)⟩
  · rw [if_neg c3] at H
    have c3b0 : ((l0.length : Int) == (l1.length : Int)) = false := beq_eq_false_iff_ne.mpr c3
    have c3b1 : ((l0.length : Int) != (l1.length : Int)) = true := bne_iff_ne.mpr c3
    have c3b2 : (l0.length == l1.length) = false := by first | simpa using c3 | (simp at c3 ⊢; omega)
    obtain rfl := Option.some.inj H
    go_enter Try.func8, Try.ntmps8
    go_wp2
    repeat (go_quiet (fail); try go_wp2)
    go_ret
    exact ⟨by first | rfl | (simp; done) | (simp [*]; done), by repeat (first | exact Drawn0.refl _ | apply Drawn0.step)⟩
end
section
attribute [local go_sem] max2_int min2_int max_two min_two max_three min_three max_four min_four
mutual
def laws_FnWidths.j0 : Nat → List Int → List ByteArray → Int → Int → Bool → Bool → Option (Bool)
  | 0, _, _, _, _, _, _ => none
  | k + 1, x1, x5, x6, x7, x8, x55 => if x55 = true then (some false) else (if x8 = true then (laws_FnWidths.j1 k x1 x5 x6 x7 (decide ((x5.length : Int) > 0))) else (laws_FnWidths.j1 k x1 x5 x6 x7 false))
def laws_FnWidths.j1 : Nat → List Int → List ByteArray → Int → Int → Bool → Option (Bool)
  | 0, _, _, _, _, _ => none
  | k + 1, x1, x5, x6, x7, x61 => if x61 = true then ((impl_GreedyLines.f k x5 x7).bind fun bt109 => (if bt109.2 = true then (laws_FnWidths.j2 k x1 x5 x6 x7 bt109.1 (decide ((bt109.1.length : Int) > x6))) else (laws_FnWidths.j2 k x1 x5 x6 x7 bt109.1 true))) else (laws_FnWidths.j5 k x1)
def laws_FnWidths.j5 : Nat → List Int → Option (Bool)
  | 0, _ => none
  | k + 1, x1 => (spec_DrawWordsOf.f k x1).bind fun t124 => ((impl_WordsOf.f t124).bind fun bt125 => ((spec_WordsOf.f k t124).bind fun bt129 => (if (bt125.2 == bt129.2) = true then ((laws_sameTexts.f k bt125.1 bt129.1).bind fun t133 => (some t133)) else (some false))))
def laws_FnWidths.j2 : Nat → List Int → List ByteArray → Int → Int → List ByteArray → Bool → Option (Bool)
  | 0, _, _, _, _, _, _ => none
  | k + 1, x1, x5, x6, x7, x11, x75 => if x75 = true then (some false) else ((impl_GreedyLines.f k x5 (wrap64 (x7 - 1))).bind fun bt113 => (if bt113.2 = true then (laws_FnWidths.j3 k x1 x5 x11 (decide ((bt113.1.length : Int) ≤ x6))) else (laws_FnWidths.j3 k x1 x5 x11 false)))
def laws_FnWidths.j3 : Nat → List Int → List ByteArray → List ByteArray → Bool → Option (Bool)
  | 0, _, _, _, _ => none
  | k + 1, x1, x5, x11, x89 => if x89 = true then (some false) else (laws_FnWidths.l0 k x1 x5 (⟨#[]⟩ : ByteArray) x11 (x11.length : Int) 0)
def laws_FnWidths.l0 : Nat → List Int → List ByteArray → ByteArray → List ByteArray → Int → Int → Option (Bool)
  | 0, _, _, _, _, _, _ => none
  | k + 1, x1, x5, x15, x90, x91, x92 => if x92 < x91 then (if 0 ≤ x92 then (if x92 < (x90.length : Int) then (if x92 > 0 then (if x15.size + 1 ≤ 9223372036854775807 then (if (x15 ++ (⟨#[32]⟩ : ByteArray)).size + (rdOf ByteArray.empty x90 x92).size ≤ 9223372036854775807 then (laws_FnWidths.l0 k x1 x5 ((x15 ++ (⟨#[32]⟩ : ByteArray)) ++ (rdOf ByteArray.empty x90 x92)) x90 x91 (wrap64 (x92 + 1))) else (none)) else (none)) else (if x15.size + (rdOf ByteArray.empty x90 x92).size ≤ 9223372036854775807 then (laws_FnWidths.l0 k x1 x5 (x15 ++ (rdOf ByteArray.empty x90 x92)) x90 x91 (wrap64 (x92 + 1))) else (none))) else (none)) else (none)) else ((impl_WordsOf.f x15).bind fun bt118 => ((spec_GoodText.f k x15).bind fun t122 => (if t122 = true then (if bt118.2 = true then ((laws_sameTexts.f k bt118.1 x5).bind fun t123 => (if t123 = true then (laws_FnWidths.j5 k x1) else (some false))) else (some false)) else (laws_FnWidths.j5 k x1))))
end
def laws_FnWidths.f (k : Nat) (l0 : List Int) (l1 : List Int) : Option (Bool) := if (wrap64 ((l0.length : Int) + (l1.length : Int))) > 1048576 then (some true) else ((spec_DrawLeastWidth.f k l0).bind fun bt101 => ((impl_LeastWidth.f k bt101.1 bt101.2).bind fun bt105 => ((spec_LeastWidth.f k bt101.1 bt101.2).bind fun bt107 => (if (bt105.2 != bt107.2) = true then (laws_FnWidths.j0 k l1 bt101.1 bt101.2 bt105.1 bt105.2 true) else (laws_FnWidths.j0 k l1 bt101.1 bt101.2 bt105.1 bt105.2 (bt105.1 != bt107.1))))))
set_option maxHeartbeats 8000000 in
set_option maxRecDepth 100000 in
theorem laws_FnWidths.calls (k : Nat) (A0 : Option Addr) (c0 : Nat) (l0 : List Int) (A1 : Option Addr) (c1 : Nat) (l1 : List Int) (r : Bool) (w : World) (hr0 : Kd.C (Kd.int .u8) w A0 l0.length l0) (hc0 : l0.length ≤ c0) (hr1 : Kd.C (Kd.int .u8) w A1 l1.length l1) (hc1 : l1.length ≤ c1) (h : laws_FnWidths.f k l0 l1 = some r) :
    Calls Try.prog 4 #[.slice A0 l0.length c0, .slice A1 l1.length c1] w fun e w' => e = .returned (.bool r) ∧ Below w.heap.size w w' := by
  have HR0 := mz hr0
  have HC0 := mz hc0
  clear hr0 hc0
  have HR1 := mz hr1
  have HC1 := mz hc1
  clear hr1 hc1
  have HB := mz (Below.refl w.heap.size w)
  have H : (if (wrap64 ((l0.length : Int) + (l1.length : Int))) > 1048576 then (some true) else ((spec_DrawLeastWidth.f k l0).bind fun bt101 => ((impl_LeastWidth.f k bt101.1 bt101.2).bind fun bt105 => ((spec_LeastWidth.f k bt101.1 bt101.2).bind fun bt107 => (if (bt105.2 != bt107.2) = true then (laws_FnWidths.j0 k l1 bt101.1 bt101.2 bt105.1 bt105.2 true) else (laws_FnWidths.j0 k l1 bt101.1 bt101.2 bt105.1 bt105.2 (bt105.1 != bt107.1))))))) = some r := h
  clear h
  by_cases c3 : (wrap64 ((l0.length : Int) + (l1.length : Int))) > 1048576
  · rw [if_pos c3] at H
    have c3b0 : decide (1048576 < (wrap64 ((l0.length : Int) + (l1.length : Int)))) = true := decide_eq_true c3
    clear c3
    obtain rfl := Option.some.inj H
    go_enter Try.func4, Try.ntmps4
    go_wp2
    go_ret
    exact ⟨by first | rfl | (simp [errW_none, errW_some] <;> rfl) | (simp [*, errW_none, errW_some] <;> rfl), by repeat (first | (with_reducible first | exact HB.out | apply below_alloc | apply pw_below_drewN | apply below_drew1) | exact HB.out)⟩
  · rw [if_neg c3] at H
    have c3b0 : decide (1048576 < (wrap64 ((l0.length : Int) + (l1.length : Int)))) = false := decide_eq_false c3
    clear c3
    replace H := be0_ H
    obtain ⟨⟨t101, t102⟩, A40, H⟩ := H
    replace H : ((impl_LeastWidth.f k t101 t102).bind fun bt105 => ((spec_LeastWidth.f k t101 t102).bind fun bt107 => (if (bt105.2 != bt107.2) = true then (laws_FnWidths.j0 k l1 t101 t102 bt105.1 bt105.2 true) else (laws_FnWidths.j0 k l1 t101 t102 bt105.1 bt105.2 (bt105.1 != bt107.1))))) = some r := H
    have A4 := mz A40
    clear A40
    replace H := be0_ H
    obtain ⟨⟨t105, t106⟩, A50, H⟩ := H
    replace H : ((spec_LeastWidth.f k t101 t102).bind fun bt107 => (if (t106 != bt107.2) = true then (laws_FnWidths.j0 k l1 t101 t102 t105 t106 true) else (laws_FnWidths.j0 k l1 t101 t102 t105 t106 (t105 != bt107.1)))) = some r := H
    have A5 := mz A50
    clear A50
    replace H := be0_ H
    obtain ⟨⟨t107, t108⟩, A60, H⟩ := H
    replace H : (if (t106 != t108) = true then (laws_FnWidths.j0 k l1 t101 t102 t105 t106 true) else (laws_FnWidths.j0 k l1 t101 t102 t105 t106 (t105 != t107))) = some r := H
    have A6 := mz A60
    clear A60
    have HC7 := mz H
    clear H
    go_enter Try.func4, Try.ntmps4
    go_upto_region 6 with (first | ((with_reducible refine gate_callee (f := 14) rfl ?_); refine goesL_ (some 33) rfl rfl Try.func14 (by kernel_rfl) rfl #[.slice A0 l0.length c0] rfl (by (try simp only [List.map_toArray, List.map_cons, List.map_nil]); first | done | rfl | (simp only [List.length_drop, List.length_take]; rfl)) ?_; (with_reducible refine (spec_DrawLeastWidth.calls k _ _ l0 t101 t102 _ ?side1 ?side2 A4.out).mono ?_); (case side1 => repeat (first | exact HR0.out | (with_reducible refine Kd.C_alloc ?_ _) | (with_reducible refine Kd.C_drewN ?_ _) | (with_reducible refine Kd.C_drew ?_))); (case side2 => exact HC0.out); rintro e w8 ⟨v103, rfl, ho0, hb⟩; refine ⟨_, rfl, ?_⟩; have n0_ := mz (Kd.R_lower ho0 (below_size (by repeat (first | (with_reducible first | exact HB.out | apply below_alloc | apply pw_below_drewN | apply below_drew1) | exact HB.out)))); have n1_ := mz (below_step (by repeat (first | (with_reducible first | exact HB.out | apply below_alloc | apply pw_below_drewN | apply below_drew1) | exact HB.out)) hb); clear HB; have HO104 := n0_; have HB := n1_; clear n0_ n1_; (try clear hb); (try clear hb2); (try clear hk); (try clear hi); (try clear ho0); obtain ⟨Ao9, co9, eo9⟩ := Kd.R_slice HO104.out; subst eo9) | ((with_reducible refine gate_callee (f := 15) rfl ?_); refine goesL_ (some 39) rfl rfl Try.func15 (by kernel_rfl) rfl #[.slice Ao9 t101.length co9, .int .i64 t102] rfl (by (try simp only [List.map_toArray, List.map_cons, List.map_nil]); first | done | rfl | (simp only [List.length_drop, List.length_take]; rfl)) ?_; (with_reducible refine (impl_LeastWidth.calls k _ _ t101 t102 t105 t106 _ ?side1 ?side2 A5.out).mono ?_); (case side1 => repeat (first | exact (Kd.R_reads' HO104.out).2.2 | (with_reducible refine Kd.C_alloc ?_ _) | (with_reducible refine Kd.C_drewN ?_ _) | (with_reducible refine Kd.C_drew ?_))); (case side2 => exact (Kd.R_reads' HO104.out).2.1); rintro e w10 ⟨rfl, hb⟩; refine ⟨_, rfl, ?_⟩; have n0_ := mz (Kd.R_below (by (with_reducible repeat (first | apply Kd.R_alloc | apply Kd.R_drewN | apply Kd.R_drew)); exact HO104.out) hb); have n1_ := mz (below_step (by repeat (first | (with_reducible first | exact HB.out | apply below_alloc | apply pw_below_drewN | apply below_drew1) | exact HB.out)) hb); clear HO104; clear HB; have HO104 := n0_; have HB := n1_; clear n0_ n1_; (try clear hb); (try clear hb2); (try clear hk); (try clear hi)) | ((with_reducible refine gate_callee (f := 16) rfl ?_); refine goesL_ (some 45) rfl rfl Try.func16 (by kernel_rfl) rfl #[.slice Ao9 t101.length co9, .int .i64 t102] rfl (by (try simp only [List.map_toArray, List.map_cons, List.map_nil]); first | done | rfl | (simp only [List.length_drop, List.length_take]; rfl)) ?_; (with_reducible refine (spec_LeastWidth.calls k _ _ t101 t102 t107 t108 _ ?side1 ?side2 A6.out).mono ?_); (case side1 => repeat (first | exact (Kd.R_reads' HO104.out).2.2 | (with_reducible refine Kd.C_alloc ?_ _) | (with_reducible refine Kd.C_drewN ?_ _) | (with_reducible refine Kd.C_drew ?_))); (case side2 => exact (Kd.R_reads' HO104.out).2.1); rintro e w11 ⟨rfl, hb⟩; refine ⟨_, rfl, ?_⟩; have n0_ := mz (Kd.R_below (by (with_reducible repeat (first | apply Kd.R_alloc | apply Kd.R_drewN | apply Kd.R_drew)); exact HO104.out) hb); have n1_ := mz (below_step (by repeat (first | (with_reducible first | exact HB.out | apply below_alloc | apply pw_below_drewN | apply below_drew1) | exact HB.out)) hb); clear HO104; clear HB; have HO104 := n0_; have HB := n1_; clear n0_ n1_; (try clear hb); (try clear hb2); (try clear hk); (try clear hi)))
    (try simp only [Act.put, List.setIfInBounds_toArray, List.set_cons_zero, List.set_cons_succ])
    go_cut [55] (fun v55 wc => ∃ (kq : Nat) (x55_6 : Bool), v55 = .bool x55_6 ∧ Aside0 (laws_FnWidths.j0 kq l1 t101 t102 t105 t106 x55_6 = some r) ∧ Aside0 (kq ≤ k) ∧ Aside0 (Kd.R Kd.string 9 wc w.heap.size (fun _ => True) (.slice Ao9 t101.length co9) t101) ∧ Aside0 (Below w.heap.size w wc))
    case first =>
      have H := HC7.out
      clear HC7
      by_cases c12 : (t106 != t108) = true
      · rw [if_pos c12] at H
        have c12b0 : (t106 != t108) = true := c12
        (try (have c12b1 : decide (t106 = t108) = false := by simpa using c12))
        (try (have c12b2 : (t106 == t108) = false := by simpa using c12))
        (try (have c12b3 : ¬ (t106 = t108) := by simpa using c12))
        clear c12
        (first | rw [c12b0] | (simp only [i64_w, i32_w]; rw [c12b0]) | skip)
        have H' := mz H
        clear H
        go_wp2
        go_meet
        case rel => exact ⟨_, (true), (by first | rfl | (simp; done) | (simp [*]; done)), H', ⟨by first | omega | exact Nat.le_refl _⟩, ⟨by (with_reducible repeat (first | apply Kd.R_alloc | apply Kd.R_drewN | apply Kd.R_drew)); exact HO104.out⟩, ⟨by repeat (first | (with_reducible first | exact HB.out | apply below_alloc | apply pw_below_drewN | apply below_drew1) | exact HB.out)⟩⟩
      · rw [if_neg c12] at H
        have c12b0 : (t106 != t108) = false := by simpa using c12
        (try (have c12b1 : decide (t106 = t108) = true := by simpa using c12))
        (try (have c12b2 : (t106 == t108) = true := by simpa using c12))
        clear c12
        (first | rw [c12b0] | (simp only [i64_w, i32_w]; rw [c12b0]) | skip)
        have H' := mz H
        clear H
        go_wp2
        go_meet
        case rel => exact ⟨_, ((t105 != t107)), (by first | rfl | (simp; done) | (simp [*]; done)), H', ⟨by first | omega | exact Nat.le_refl _⟩, ⟨by (with_reducible repeat (first | apply Kd.R_alloc | apply Kd.R_drewN | apply Kd.R_drew)); exact HO104.out⟩, ⟨by repeat (first | (with_reducible first | exact HB.out | apply below_alloc | apply pw_below_drewN | apply below_drew1) | exact HB.out)⟩⟩
    case rest =>
      clear HC7
      try clear c1
      try clear p2
      try clear c3
      try clear c3b0
      try clear c4
      try clear p6
      try clear c12
      try clear c12b0
      try clear c12b1
      try clear c12b2
      obtain ⟨kq, x55_6, rfl, HA, HJ6, HO_5, HB⟩ := hcut
      cases kq with
      | zero => exact absurd HA.out (by simp [laws_FnWidths.j0])
      | succ kj6 =>
        have H := HA.out
        clear HA
        simp only [laws_FnWidths.j0] at H
        by_cases c13 : x55_6 = true
        · subst c13
          have H1 : (some false) = some r := by rw [if_pos rfl] at H; exact H
          clear H
          have H := H1
          clear H1
          obtain rfl := Option.some.inj H
          go_wp2
          go_ret
          exact ⟨by first | rfl | (simp [errW_none, errW_some] <;> rfl) | (simp [*, errW_none, errW_some] <;> rfl), by repeat (first | (with_reducible first | exact HB.out | apply below_alloc | apply pw_below_drewN | apply below_drew1) | exact HB.out)⟩
        · replace c13 := Bool.eq_false_iff.mpr c13
          subst c13
          have H1 : (if t106 = true then (laws_FnWidths.j1 kj6 l1 t101 t102 t105 (decide ((t101.length : Int) > 0))) else (laws_FnWidths.j1 kj6 l1 t101 t102 t105 false)) = some r := by rw [if_neg (show ¬ (false = true) by decide)] at H; exact H
          clear H
          have H := H1
          clear H1
          have HC14 := mz H
          clear H
          go_upto_region 8 with (fail)
          go_cut [61] (fun v61 wc => ∃ (kq : Nat) (x61_13 : Bool), v61 = .bool x61_13 ∧ Aside0 (laws_FnWidths.j1 kq l1 t101 t102 t105 x61_13 = some r) ∧ Aside0 (kq ≤ kj6) ∧ Aside0 (Kd.R Kd.string 9 wc w.heap.size (fun _ => True) (.slice Ao9 t101.length co9) t101) ∧ Aside0 (Below w.heap.size w wc))
          case first =>
            have H := HC14.out
            clear HC14
            by_cases c15 : t106 = true
            · subst c15
              have H1 : (laws_FnWidths.j1 kj6 l1 t101 t102 t105 (decide ((t101.length : Int) > 0))) = some r := by rw [if_pos rfl] at H; exact H
              clear H
              have H := H1
              clear H1
              have H' := mz H
              clear H
              go_wp2
              go_meet
              case rel => exact ⟨_, (decide ((t101.length : Int) > 0)), (by first | rfl | (simp; done) | (simp [*]; done)), H', ⟨by have := HJ6.out; first | omega | exact Nat.le_refl _⟩, ⟨by (with_reducible repeat (first | apply Kd.R_alloc | apply Kd.R_drewN | apply Kd.R_drew)); exact HO_5.out⟩, ⟨by repeat (first | (with_reducible first | exact HB.out | apply below_alloc | apply pw_below_drewN | apply below_drew1) | exact HB.out)⟩⟩
            · replace c15 := Bool.eq_false_iff.mpr c15
              subst c15
              have H1 : (laws_FnWidths.j1 kj6 l1 t101 t102 t105 false) = some r := by rw [if_neg (show ¬ (false = true) by decide)] at H; exact H
              clear H
              have H := H1
              clear H1
              have H' := mz H
              clear H
              go_wp2
              go_meet
              case rel => exact ⟨_, (false), (by first | rfl | (simp; done) | (simp [*]; done)), H', ⟨by have := HJ6.out; first | omega | exact Nat.le_refl _⟩, ⟨by (with_reducible repeat (first | apply Kd.R_alloc | apply Kd.R_drewN | apply Kd.R_drew)); exact HO_5.out⟩, ⟨by repeat (first | (with_reducible first | exact HB.out | apply below_alloc | apply pw_below_drewN | apply below_drew1) | exact HB.out)⟩⟩
          case rest =>
            clear HC14
            try clear c1
            try clear p2
            try clear c3
            try clear c3b0
            try clear c4
            try clear p6
            try clear c12
            try clear c12b0
            try clear c12b1
            try clear c12b2
            try clear c13
            try clear c14
            try clear c15
            try clear p2
            try clear p6
            obtain ⟨kq, x61_13, rfl, HA, HJ13, HO_5, HB⟩ := hcut
            cases kq with
            | zero => exact absurd HA.out (by simp [laws_FnWidths.j1])
            | succ kj13 =>
              have H := HA.out
              clear HA
              simp only [laws_FnWidths.j1] at H
              have HC16 := mz H
              clear H
              go_upto_if 61 with (fail)
              go_cut [] (fun wc => ∃ (kq : Nat), Aside0 (laws_FnWidths.j5 kq l1 = some r) ∧ Aside0 (kq ≤ kj13) ∧ Aside0 (Below w.heap.size w wc))
              case first =>
                have H := HC16.out
                clear HC16
                by_cases c17 : x61_13 = true
                · subst c17
                  have H1 : ((impl_GreedyLines.f kj13 t101 t105).bind fun bt109 => (if bt109.2 = true then (laws_FnWidths.j2 kj13 l1 t101 t102 t105 bt109.1 (decide ((bt109.1.length : Int) > t102))) else (laws_FnWidths.j2 kj13 l1 t101 t102 t105 bt109.1 true))) = some r := by rw [if_pos rfl] at H; exact H
                  clear H
                  have H := H1
                  clear H1
                  replace H := be0_ H
                  obtain ⟨⟨t109, t110⟩, A180, H⟩ := H
                  replace H : (if t110 = true then (laws_FnWidths.j2 kj13 l1 t101 t102 t105 t109 (decide ((t109.length : Int) > t102))) else (laws_FnWidths.j2 kj13 l1 t101 t102 t105 t109 true)) = some r := H
                  have A18 := mz A180
                  clear A180
                  have HC19 := mz H
                  clear H
                  go_upto_region 10 with (first | ((with_reducible refine gate_callee (f := 10) rfl ?_); refine goesL_ (some 65) rfl rfl Try.func10 (by kernel_rfl) rfl #[.slice Ao9 t101.length co9, .int .i64 t105] rfl (by (try simp only [List.map_toArray, List.map_cons, List.map_nil]); first | done | rfl | (simp only [List.length_drop, List.length_take]; rfl)) ?_; (with_reducible refine (impl_GreedyLines.calls kj13 _ _ t101 t105 t109 t110 _ ?side1 ?side2 A18.out).mono ?_); (case side1 => repeat (first | exact (Kd.R_reads' HO_5.out).2.2 | (with_reducible refine Kd.C_alloc ?_ _) | (with_reducible refine Kd.C_drewN ?_ _) | (with_reducible refine Kd.C_drew ?_))); (case side2 => exact (Kd.R_reads' HO_5.out).2.1); rintro e w20 ⟨v111, rfl, ho0, hb⟩; refine ⟨_, rfl, ?_⟩; have n0_ := mz (Kd.R_elder' (by (with_reducible repeat (first | apply Kd.R_alloc | apply Kd.R_drewN | apply Kd.R_drew)); exact HO_5.out) (Kd.R_base ho0) hb); have n1_ := mz (Kd.R_lower (Kd.R_new' ho0 (Kd.R_lt (by (with_reducible repeat (first | apply Kd.R_alloc | apply Kd.R_drewN | apply Kd.R_drew)); exact HO_5.out))) (below_size (by repeat (first | (with_reducible first | exact HB.out | apply below_alloc | apply pw_below_drewN | apply below_drew1) | exact HB.out)))); have n2_ := mz (below_step (by repeat (first | (with_reducible first | exact HB.out | apply below_alloc | apply pw_below_drewN | apply below_drew1) | exact HB.out)) hb); clear HO_5; clear HB; have HO_5 := n0_; have HO112 := n1_; have HB := n2_; clear n0_ n1_ n2_; (try clear hb); (try clear hb2); (try clear hk); (try clear hi); (try clear ho0)))
                  (try simp only [Act.put, List.setIfInBounds_toArray, List.set_cons_zero, List.set_cons_succ])
                  go_cut [75] (fun v75 wc => ∃ (kq : Nat) (x75_18 : Bool), v75 = .bool x75_18 ∧ Aside0 (laws_FnWidths.j2 kq l1 t101 t102 t105 t109 x75_18 = some r) ∧ Aside0 (kq ≤ kj13) ∧ Aside0 (Kd.R Kd.string 9 wc w.heap.size (fun k_ => some k_ ≠ (v111 : Value).ownBlock) (.slice Ao9 t101.length co9) t101) ∧ Aside0 (Kd.R Kd.string 9 wc w.heap.size (fun k_ => some k_ ≠ ((.slice Ao9 t101.length co9) : Value).ownBlock) v111 t109) ∧ Aside0 (Below w.heap.size w wc))
                  case first =>
                    have H := HC19.out
                    clear HC19
                    by_cases c21 : t110 = true
                    · subst c21
                      have H1 : (laws_FnWidths.j2 kj13 l1 t101 t102 t105 t109 (decide ((t109.length : Int) > t102))) = some r := by rw [if_pos rfl] at H; exact H
                      clear H
                      have H := H1
                      clear H1
                      have H' := mz H
                      clear H
                      obtain ⟨Ao22, co22, eo22⟩ := Kd.R_slice HO112.out
                      subst eo22
                      go_wp2
                      go_meet
                      case rel => exact ⟨_, (decide ((t109.length : Int) > t102)), (by first | rfl | (simp; done) | (simp [*]; done)), H', ⟨by have := HJ6.out; have := HJ13.out; first | omega | exact Nat.le_refl _⟩, ⟨by (with_reducible repeat (first | apply Kd.R_alloc | apply Kd.R_drewN | apply Kd.R_drew)); exact Kd.R_mono HO_5.out (fun _ hk => hk.2)⟩, ⟨by (with_reducible repeat (first | apply Kd.R_alloc | apply Kd.R_drewN | apply Kd.R_drew)); exact Kd.R_mono HO112.out (fun _ hk => hk.2)⟩, ⟨by repeat (first | (with_reducible first | exact HB.out | apply below_alloc | apply pw_below_drewN | apply below_drew1) | exact HB.out)⟩⟩
                    · replace c21 := Bool.eq_false_iff.mpr c21
                      subst c21
                      have H1 : (laws_FnWidths.j2 kj13 l1 t101 t102 t105 t109 true) = some r := by rw [if_neg (show ¬ (false = true) by decide)] at H; exact H
                      clear H
                      have H := H1
                      clear H1
                      have H' := mz H
                      clear H
                      go_wp2
                      go_meet
                      case rel => exact ⟨_, (true), (by first | rfl | (simp; done) | (simp [*]; done)), H', ⟨by have := HJ6.out; have := HJ13.out; first | omega | exact Nat.le_refl _⟩, ⟨by (with_reducible repeat (first | apply Kd.R_alloc | apply Kd.R_drewN | apply Kd.R_drew)); exact Kd.R_mono HO_5.out (fun _ hk => hk.2)⟩, ⟨by (with_reducible repeat (first | apply Kd.R_alloc | apply Kd.R_drewN | apply Kd.R_drew)); exact Kd.R_mono HO112.out (fun _ hk => hk.2)⟩, ⟨by repeat (first | (with_reducible first | exact HB.out | apply below_alloc | apply pw_below_drewN | apply below_drew1) | exact HB.out)⟩⟩
                  case rest =>
                    clear HC19
                    try clear c1
                    try clear c2
                    try clear p2
                    try clear c3
                    try clear c3b0
                    try clear c4
                    try clear p6
                    try clear c10
                    try clear c12
                    try clear c12b0
                    try clear c12b1
                    try clear c12b2
                    try clear c13
                    try clear c14
                    try clear c15
                    try clear c16
                    try clear c17
                    try clear c21
                    try clear p2
                    try clear p6
                    obtain ⟨kq, x75_18, rfl, HA, HJ18, HO_5, HO_11, HB⟩ := hcut
                    cases kq with
                    | zero => exact absurd HA.out (by simp [laws_FnWidths.j2])
                    | succ kj18 =>
                      have H := HA.out
                      clear HA
                      simp only [laws_FnWidths.j2] at H
                      by_cases c23 : x75_18 = true
                      · subst c23
                        have H1 : (some false) = some r := by rw [if_pos rfl] at H; exact H
                        clear H
                        have H := H1
                        clear H1
                        obtain rfl := Option.some.inj H
                        go_wp2
                        go_ret
                        exact ⟨by first | rfl | (simp [errW_none, errW_some] <;> rfl) | (simp [*, errW_none, errW_some] <;> rfl), by repeat (first | (with_reducible first | exact HB.out | apply below_alloc | apply pw_below_drewN | apply below_drew1) | exact HB.out)⟩
                      · replace c23 := Bool.eq_false_iff.mpr c23
                        subst c23
                        have H1 : ((impl_GreedyLines.f kj18 t101 (wrap64 (t105 - 1))).bind fun bt113 => (if bt113.2 = true then (laws_FnWidths.j3 kj18 l1 t101 t109 (decide ((bt113.1.length : Int) ≤ t102))) else (laws_FnWidths.j3 kj18 l1 t101 t109 false))) = some r := by rw [if_neg (show ¬ (false = true) by decide)] at H; exact H
                        clear H
                        have H := H1
                        clear H1
                        replace H := be0_ H
                        obtain ⟨⟨t113, t114⟩, A240, H⟩ := H
                        replace H : (if t114 = true then (laws_FnWidths.j3 kj18 l1 t101 t109 (decide ((t113.length : Int) ≤ t102))) else (laws_FnWidths.j3 kj18 l1 t101 t109 false)) = some r := H
                        have A24 := mz A240
                        clear A240
                        have HC25 := mz H
                        clear H
                        go_upto_region 13 with (first | ((with_reducible refine gate_callee (f := 10) rfl ?_); refine goesL_ (some 80) rfl rfl Try.func10 (by kernel_rfl) rfl #[.slice Ao9 t101.length co9, .int .i64 (wrap64 (t105 - 1))] rfl (by (try simp only [List.map_toArray, List.map_cons, List.map_nil]); first | done | rfl | (simp only [List.length_drop, List.length_take]; rfl)) ?_; (with_reducible refine (impl_GreedyLines.calls kj18 _ _ t101 (wrap64 (t105 - 1)) t113 t114 _ ?side1 ?side2 A24.out).mono ?_); (case side1 => repeat (first | exact (Kd.R_reads' HO_5.out).2.2 | (with_reducible refine Kd.C_alloc ?_ _) | (with_reducible refine Kd.C_drewN ?_ _) | (with_reducible refine Kd.C_drew ?_))); (case side2 => exact (Kd.R_reads' HO_5.out).2.1); rintro e w26 ⟨v115, rfl, ho0, hb⟩; refine ⟨_, rfl, ?_⟩; have n0_ := mz (Kd.R_elder' (by (with_reducible repeat (first | apply Kd.R_alloc | apply Kd.R_drewN | apply Kd.R_drew)); exact HO_5.out) (Kd.R_base ho0) hb); have n1_ := mz (Kd.R_elder' (by (with_reducible repeat (first | apply Kd.R_alloc | apply Kd.R_drewN | apply Kd.R_drew)); exact HO_11.out) (Kd.R_base ho0) hb); have n2_ := mz (Kd.R_lower (Kd.R_new' (Kd.R_new' ho0 (Kd.R_lt (by (with_reducible repeat (first | apply Kd.R_alloc | apply Kd.R_drewN | apply Kd.R_drew)); exact HO_5.out))) (Kd.R_lt (by (with_reducible repeat (first | apply Kd.R_alloc | apply Kd.R_drewN | apply Kd.R_drew)); exact HO_11.out))) (below_size (by repeat (first | (with_reducible first | exact HB.out | apply below_alloc | apply pw_below_drewN | apply below_drew1) | exact HB.out)))); have n3_ := mz (below_step (by repeat (first | (with_reducible first | exact HB.out | apply below_alloc | apply pw_below_drewN | apply below_drew1) | exact HB.out)) hb); clear HO_5; clear HO_11; clear HB; have HO_5 := n0_; have HO_11 := n1_; have HO116 := n2_; have HB := n3_; clear n0_ n1_ n2_ n3_; (try clear hb); (try clear hb2); (try clear hk); (try clear hi); (try clear ho0)))
                        (try simp only [Act.put, List.setIfInBounds_toArray, List.set_cons_zero, List.set_cons_succ])
                        go_cut [89] (fun v89 wc => ∃ (kq : Nat) (x89_24 : Bool), v89 = .bool x89_24 ∧ Aside0 (laws_FnWidths.j3 kq l1 t101 t109 x89_24 = some r) ∧ Aside0 (kq ≤ kj18) ∧ Aside0 (Kd.R Kd.string 9 wc w.heap.size (fun k_ => some k_ ≠ (v111 : Value).ownBlock) (.slice Ao9 t101.length co9) t101) ∧ Aside0 (Kd.R Kd.string 9 wc w.heap.size (fun k_ => some k_ ≠ ((.slice Ao9 t101.length co9) : Value).ownBlock) v111 t109) ∧ Aside0 (Below w.heap.size w wc))
                        case first =>
                          have H := HC25.out
                          clear HC25
                          by_cases c27 : t114 = true
                          · subst c27
                            have H1 : (laws_FnWidths.j3 kj18 l1 t101 t109 (decide ((t113.length : Int) ≤ t102))) = some r := by rw [if_pos rfl] at H; exact H
                            clear H
                            have H := H1
                            clear H1
                            have H' := mz H
                            clear H
                            obtain ⟨Ao28, co28, eo28⟩ := Kd.R_slice HO116.out
                            subst eo28
                            go_wp2
                            go_meet
                            case rel => exact ⟨_, (decide ((t113.length : Int) ≤ t102)), (by first | rfl | (simp; done) | (simp [*]; done)), H', ⟨by have := HJ6.out; have := HJ13.out; have := HJ18.out; first | omega | exact Nat.le_refl _⟩, ⟨by (with_reducible repeat (first | apply Kd.R_alloc | apply Kd.R_drewN | apply Kd.R_drew)); exact Kd.R_mono HO_5.out (fun _ hk => hk.1)⟩, ⟨by (with_reducible repeat (first | apply Kd.R_alloc | apply Kd.R_drewN | apply Kd.R_drew)); exact Kd.R_mono HO_11.out (fun _ hk => hk.1)⟩, ⟨by repeat (first | (with_reducible first | exact HB.out | apply below_alloc | apply pw_below_drewN | apply below_drew1) | exact HB.out)⟩⟩
                          · replace c27 := Bool.eq_false_iff.mpr c27
                            subst c27
                            have H1 : (laws_FnWidths.j3 kj18 l1 t101 t109 false) = some r := by rw [if_neg (show ¬ (false = true) by decide)] at H; exact H
                            clear H
                            have H := H1
                            clear H1
                            have H' := mz H
                            clear H
                            go_wp2
                            go_meet
                            case rel => exact ⟨_, (false), (by first | rfl | (simp; done) | (simp [*]; done)), H', ⟨by have := HJ6.out; have := HJ13.out; have := HJ18.out; first | omega | exact Nat.le_refl _⟩, ⟨by (with_reducible repeat (first | apply Kd.R_alloc | apply Kd.R_drewN | apply Kd.R_drew)); exact Kd.R_mono HO_5.out (fun _ hk => hk.1)⟩, ⟨by (with_reducible repeat (first | apply Kd.R_alloc | apply Kd.R_drewN | apply Kd.R_drew)); exact Kd.R_mono HO_11.out (fun _ hk => hk.1)⟩, ⟨by repeat (first | (with_reducible first | exact HB.out | apply below_alloc | apply pw_below_drewN | apply below_drew1) | exact HB.out)⟩⟩
                        case rest =>
                          clear HC25
                          try clear c1
                          try clear c2
                          try clear p2
                          try clear c3
                          try clear c3b0
                          try clear c4
                          try clear p6
                          try clear c10
                          try clear c12
                          try clear c12b0
                          try clear c12b1
                          try clear c12b2
                          try clear c13
                          try clear c14
                          try clear c15
                          try clear c16
                          try clear c17
                          try clear c21
                          try clear c23
                          try clear c27
                          try clear p2
                          try clear p6
                          obtain ⟨kq, x89_24, rfl, HA, HJ24, HO_5, HO_11, HB⟩ := hcut
                          cases kq with
                          | zero => exact absurd HA.out (by simp [laws_FnWidths.j3])
                          | succ kj24 =>
                            have H := HA.out
                            clear HA
                            simp only [laws_FnWidths.j3] at H
                            by_cases c29 : x89_24 = true
                            · subst c29
                              have H1 : (some false) = some r := by rw [if_pos rfl] at H; exact H
                              clear H
                              have H := H1
                              clear H1
                              obtain rfl := Option.some.inj H
                              go_wp2
                              go_ret
                              exact ⟨by first | rfl | (simp [errW_none, errW_some] <;> rfl) | (simp [*, errW_none, errW_some] <;> rfl), by repeat (first | (with_reducible first | exact HB.out | apply below_alloc | apply pw_below_drewN | apply below_drew1) | exact HB.out)⟩
                            · replace c29 := Bool.eq_false_iff.mpr c29
                              subst c29
                              have H1 : (laws_FnWidths.l0 kj24 l1 t101 (⟨#[]⟩ : ByteArray) t109 (t109.length : Int) 0) = some r := by rw [if_neg (show ¬ (false = true) by decide)] at H; exact H
                              clear H
                              have H := H1
                              clear H1
                              have H' := mz H
                              clear H
                              obtain ⟨Ao30, co30, eo30⟩ := Kd.R_slice HO_11.out
                              subst eo30
                              go_wp2
                              go_loopg [15, 92] kj24 (fun kq v15 v92 w' => ∃ (x15_5 : ByteArray) (x92_5 : Int), v15 = .string x15_5 ∧ v92 = .int .i64 x92_5 ∧ Aside0 (laws_FnWidths.l0 kq l1 t101 x15_5 t109 (t109.length : Int) x92_5 = some r) ∧ Aside0 (kq ≤ kj24) ∧ Aside0 (Kd.R Kd.string 9 w' w.heap.size (fun k_ => some k_ ≠ ((.slice Ao30 t109.length co30) : Value).ownBlock) (.slice Ao9 t101.length co9) t101) ∧ Aside0 (Kd.R Kd.string 9 w' w.heap.size (fun k_ => some k_ ≠ ((.slice Ao9 t101.length co9) : Value).ownBlock) (.slice Ao30 t109.length co30) t109) ∧ Aside0 (Below w.heap.size w w'))
                              case atStart => exact ⟨((⟨#[]⟩ : ByteArray)), (0), (by first | rfl | (simp; done) | (simp [*]; done)), (by first | rfl | (simp; done) | (simp [*]; done)), H', ⟨Nat.le_refl _⟩, ⟨by (with_reducible repeat (first | apply Kd.R_alloc | apply Kd.R_drewN | apply Kd.R_drew)); exact HO_5.out⟩, ⟨by (with_reducible repeat (first | apply Kd.R_alloc | apply Kd.R_drewN | apply Kd.R_drew)); exact HO_11.out⟩, ⟨by repeat (first | (with_reducible first | exact HB.out | apply below_alloc | apply pw_below_drewN | apply below_drew1) | exact HB.out)⟩⟩
                              case round =>
                                clear H'
                                try clear c1
                                try clear c2
                                try clear p2
                                try clear c3
                                try clear c3b0
                                try clear c4
                                try clear p6
                                try clear c10
                                try clear c12
                                try clear c12b0
                                try clear c12b1
                                try clear c12b2
                                try clear c13
                                try clear c14
                                try clear c15
                                try clear c16
                                try clear c17
                                try clear c21
                                try clear c23
                                try clear c27
                                try clear c29
                                try clear p2
                                try clear p6
                                obtain ⟨x15_5, x92_5, rfl, rfl, HA, HK5, HO_5, HO_90, HB⟩ := hrel
                                cases gk with
                                | zero => exact absurd HA.out (by simp [laws_FnWidths.l0])
                                | succ k5 =>
                                  have H := HA.out
                                  clear HA
                                  simp only [laws_FnWidths.l0] at H
                                  by_cases c31 : x92_5 < (t109.length : Int)
                                  · rw [if_pos c31] at H
                                    have c31b0 : decide (x92_5 < (t109.length : Int)) = true := decide_eq_true c31
                                    clear c31
                                    by_cases c32 : 0 ≤ x92_5
                                    · rw [if_pos c32] at H
                                      have c32b0 : decide (0 ≤ x92_5) = true := decide_eq_true c32
                                      clear c32
                                      by_cases c33 : x92_5 < (t109.length : Int)
                                      · rw [if_pos c33] at H
                                        have c33b0 : decide (x92_5 < (t109.length : Int)) = true := decide_eq_true c33
                                        clear c33
                                        by_cases c34 : x92_5 > 0
                                        · rw [if_pos c34] at H
                                          have c34b0 : decide (0 < x92_5) = true := decide_eq_true c34
                                          clear c34
                                          by_cases c35 : x15_5.size + 1 ≤ 9223372036854775807
                                          · rw [if_pos c35] at H
                                            have c35b0 := eq_true c35
                                            have c35b1 : decide (x15_5.size + 1 ≤ 9223372036854775807) = true := decide_eq_true c35
                                            try have c35b2 : (9223372036854775807 < x15_5.size + 1) = False := eq_false (Nat.not_lt.2 c35)
                                            by_cases c36 : (x15_5 ++ (⟨#[32]⟩ : ByteArray)).size + (rdOf ByteArray.empty t109 x92_5).size ≤ 9223372036854775807
                                            · rw [if_pos c36] at H
                                              have c36b0 := eq_true c36
                                              have c36b1 : decide ((x15_5 ++ (⟨#[32]⟩ : ByteArray)).size + (rdOf ByteArray.empty t109 x92_5).size ≤ 9223372036854775807) = true := decide_eq_true c36
                                              try have c36b2 : (9223372036854775807 < (x15_5 ++ (⟨#[32]⟩ : ByteArray)).size + (rdOf ByteArray.empty t109 x92_5).size) = False := eq_false (Nat.not_lt.2 c36)
                                              try have c36b3 := c36b2
                                              try simp only [ByteArray.size_append, (show ((⟨#[32]⟩ : ByteArray)).size = 1 from rfl)] at c36b3
                                              have H' := mz H
                                              clear H
                                              have p117 : 0 ≤ (x92_5 : Int) := of_decide_eq_true (by first | (with_reducible assumption) | assumption)
                                              have q117 : x92_5 < (t109.length : Int) := of_decide_eq_true (by first | (with_reducible assumption) | assumption)
                                              obtain ⟨ad117, e117, hx117_0⟩ := Kd.at_string (Kd.R_reads' HO_90.out).2.2 x92_5 p117 q117
                                              cases e117
                                              replace p117 := eq_true p117
                                              replace q117 := eq_true q117
                                              go_wp2
                                              go_roundg k5
                                              case measure => have := HJ6.out; have := HJ13.out; have := HJ18.out; have := HJ24.out; have := HK5.out; omega
                                              case rel => exact ⟨((x15_5 ++ (⟨#[32]⟩ : ByteArray)) ++ (rdOf ByteArray.empty t109 x92_5)), (wrap64 (x92_5 + 1)), (by first | rfl | (simp; done) | (simp [*]; done)), (by first | rfl | (simp; done) | (simp [*]; done)), H', ⟨by have := HJ6.out; have := HJ13.out; have := HJ18.out; have := HJ24.out; have := HK5.out; omega⟩, ⟨by (with_reducible repeat (first | apply Kd.R_alloc | apply Kd.R_drewN | apply Kd.R_drew)); exact HO_5.out⟩, ⟨by (with_reducible repeat (first | apply Kd.R_alloc | apply Kd.R_drewN | apply Kd.R_drew)); exact HO_90.out⟩, ⟨by repeat (first | (with_reducible first | exact HB.out | apply below_alloc | apply pw_below_drewN | apply below_drew1) | exact HB.out)⟩⟩
                                            · rw [if_neg c36] at H
                                              exact absurd H (by simp)
                                          · rw [if_neg c35] at H
                                            exact absurd H (by simp)
                                        · rw [if_neg c34] at H
                                          have c34b0 : decide (0 < x92_5) = false := decide_eq_false c34
                                          clear c34
                                          by_cases c37 : x15_5.size + (rdOf ByteArray.empty t109 x92_5).size ≤ 9223372036854775807
                                          · rw [if_pos c37] at H
                                            have c37b0 := eq_true c37
                                            have c37b1 : decide (x15_5.size + (rdOf ByteArray.empty t109 x92_5).size ≤ 9223372036854775807) = true := decide_eq_true c37
                                            try have c37b2 : (9223372036854775807 < x15_5.size + (rdOf ByteArray.empty t109 x92_5).size) = False := eq_false (Nat.not_lt.2 c37)
                                            have H' := mz H
                                            clear H
                                            have p117 : 0 ≤ (x92_5 : Int) := of_decide_eq_true (by first | (with_reducible assumption) | assumption)
                                            have q117 : x92_5 < (t109.length : Int) := of_decide_eq_true (by first | (with_reducible assumption) | assumption)
                                            obtain ⟨ad117, e117, hx117_0⟩ := Kd.at_string (Kd.R_reads' HO_90.out).2.2 x92_5 p117 q117
                                            cases e117
                                            replace p117 := eq_true p117
                                            replace q117 := eq_true q117
                                            go_wp2
                                            go_roundg k5
                                            case measure => have := HJ6.out; have := HJ13.out; have := HJ18.out; have := HJ24.out; have := HK5.out; omega
                                            case rel => exact ⟨(x15_5 ++ (rdOf ByteArray.empty t109 x92_5)), (wrap64 (x92_5 + 1)), (by first | rfl | (simp; done) | (simp [*]; done)), (by first | rfl | (simp; done) | (simp [*]; done)), H', ⟨by have := HJ6.out; have := HJ13.out; have := HJ18.out; have := HJ24.out; have := HK5.out; omega⟩, ⟨by (with_reducible repeat (first | apply Kd.R_alloc | apply Kd.R_drewN | apply Kd.R_drew)); exact HO_5.out⟩, ⟨by (with_reducible repeat (first | apply Kd.R_alloc | apply Kd.R_drewN | apply Kd.R_drew)); exact HO_90.out⟩, ⟨by repeat (first | (with_reducible first | exact HB.out | apply below_alloc | apply pw_below_drewN | apply below_drew1) | exact HB.out)⟩⟩
                                          · rw [if_neg c37] at H
                                            exact absurd H (by simp)
                                      · rw [if_neg c33] at H
                                        exact absurd H (by simp)
                                    · rw [if_neg c32] at H
                                      exact absurd H (by simp)
                                  · rw [if_neg c31] at H
                                    have c31b0 : decide (x92_5 < (t109.length : Int)) = false := decide_eq_false c31
                                    clear c31
                                    replace H := be0_ H
                                    obtain ⟨⟨t118, t119⟩, A380, H⟩ := H
                                    replace H : ((spec_GoodText.f k5 x15_5).bind fun t122 => (if t122 = true then (if t119 = true then ((laws_sameTexts.f k5 t118 t101).bind fun t123 => (if t123 = true then (laws_FnWidths.j5 k5 l1) else (some false))) else (some false)) else (laws_FnWidths.j5 k5 l1))) = some r := H
                                    have A38 := mz A380
                                    clear A380
                                    replace H := be0_ H
                                    obtain ⟨t122, A390, H⟩ := H
                                    replace H : (if t122 = true then (if t119 = true then ((laws_sameTexts.f k5 t118 t101).bind fun t123 => (if t123 = true then (laws_FnWidths.j5 k5 l1) else (some false))) else (some false)) else (laws_FnWidths.j5 k5 l1)) = some r := H
                                    have A39 := mz A390
                                    clear A390
                                    by_cases c40 : t122 = true
                                    · subst c40
                                      have H1 : (if t119 = true then ((laws_sameTexts.f k5 t118 t101).bind fun t123 => (if t123 = true then (laws_FnWidths.j5 k5 l1) else (some false))) else (some false)) = some r := by rw [if_pos rfl] at H; exact H
                                      clear H
                                      have H := H1
                                      clear H1
                                      by_cases c41 : t119 = true
                                      · subst c41
                                        have H1 : ((laws_sameTexts.f k5 t118 t101).bind fun t123 => (if t123 = true then (laws_FnWidths.j5 k5 l1) else (some false))) = some r := by rw [if_pos rfl] at H; exact H
                                        clear H
                                        have H := H1
                                        clear H1
                                        replace H := be0_ H
                                        obtain ⟨t123, A420, H⟩ := H
                                        replace H : (if t123 = true then (laws_FnWidths.j5 k5 l1) else (some false)) = some r := H
                                        have A42 := mz A420
                                        clear A420
                                        by_cases c43 : t123 = true
                                        · subst c43
                                          have H1 : (laws_FnWidths.j5 k5 l1) = some r := by rw [if_pos rfl] at H; exact H
                                          clear H
                                          have H := H1
                                          clear H1
                                          have H' := mz H
                                          clear H
                                          go_wp2_with (first | ((with_reducible refine gate_callee (f := 17) rfl ?_); refine goesL_ (some 107) rfl rfl Try.func17 (by kernel_rfl) rfl #[.string x15_5] rfl (by (try simp only [List.map_toArray, List.map_cons, List.map_nil]); first | done | rfl | (simp only [List.length_drop, List.length_take]; rfl)) ?_; (with_reducible refine (impl_WordsOf.calls x15_5 t118 true _ A38.out).mono ?_); rintro e w44 ⟨v120, rfl, ho0, hb⟩; refine ⟨_, rfl, ?_⟩; have n0_ := mz (Kd.R_elder' (by (with_reducible repeat (first | apply Kd.R_alloc | apply Kd.R_drewN | apply Kd.R_drew)); exact HO_5.out) (Kd.R_base ho0) hb); have n1_ := mz (Kd.R_elder' (by (with_reducible repeat (first | apply Kd.R_alloc | apply Kd.R_drewN | apply Kd.R_drew)); exact HO_90.out) (Kd.R_base ho0) hb); have n2_ := mz (Kd.R_lower (Kd.R_new' (Kd.R_new' ho0 (Kd.R_lt (by (with_reducible repeat (first | apply Kd.R_alloc | apply Kd.R_drewN | apply Kd.R_drew)); exact HO_5.out))) (Kd.R_lt (by (with_reducible repeat (first | apply Kd.R_alloc | apply Kd.R_drewN | apply Kd.R_drew)); exact HO_90.out))) (below_size (by repeat (first | (with_reducible first | exact HB.out | apply below_alloc | apply pw_below_drewN | apply below_drew1) | exact HB.out)))); have n3_ := mz (below_step (by repeat (first | (with_reducible first | exact HB.out | apply below_alloc | apply pw_below_drewN | apply below_drew1) | exact HB.out)) hb); clear HO_5; clear HO_90; clear HB; have HO_5 := n0_; have HO_90 := n1_; have HO121 := n2_; have HB := n3_; clear n0_ n1_ n2_ n3_; (try clear hb); (try clear hb2); (try clear hk); (try clear hi); (try clear ho0)) | ((with_reducible refine gate_callee (f := 18) rfl ?_); refine goesL_ (some 111) rfl rfl Try.func18 (by kernel_rfl) rfl #[.string x15_5] rfl (by (try simp only [List.map_toArray, List.map_cons, List.map_nil]); first | done | rfl | (simp only [List.length_drop, List.length_take]; rfl)) ?_; (with_reducible refine (spec_GoodText.calls k5 x15_5 true _ A39.out).mono ?_); rintro e w' ⟨rfl, ⟨nd, rfl⟩⟩; refine ⟨_, rfl, ?_⟩; obtain ⟨Ao45, co45, eo45⟩ := Kd.R_slice HO121.out; subst eo45) | (go_at_call 8; (with_reducible refine (laws_sameTexts.calls k5 _ _ t118 _ _ t101 true _ ?side1 ?side2 ?side3 ?side4 A42.out).mono ?_); (case side1 => repeat (first | exact (Kd.R_reads' HO121.out).2.2 | (with_reducible refine Kd.C_alloc ?_ _) | (with_reducible refine Kd.C_drewN ?_ _) | (with_reducible refine Kd.C_drew ?_))); (case side2 => exact (Kd.R_reads' HO121.out).2.1); (case side3 => repeat (first | exact (Kd.R_reads' HO_5.out).2.2 | (with_reducible refine Kd.C_alloc ?_ _) | (with_reducible refine Kd.C_drewN ?_ _) | (with_reducible refine Kd.C_drew ?_))); (case side4 => exact (Kd.R_reads' HO_5.out).2.1); rintro e w' ⟨rfl, ⟨nd, rfl⟩⟩))
                                          go_meet
                                          case rel => exact ⟨_, H', ⟨by have := HJ6.out; have := HJ13.out; have := HJ18.out; have := HJ24.out; have := HK5.out; first | omega | exact Nat.le_refl _⟩, ⟨by repeat (first | (with_reducible first | exact HB.out | apply below_alloc | apply pw_below_drewN | apply below_drew1) | exact HB.out)⟩⟩
                                        · replace c43 := Bool.eq_false_iff.mpr c43
                                          subst c43
                                          have H1 : (some false) = some r := by rw [if_neg (show ¬ (false = true) by decide)] at H; exact H
                                          clear H
                                          have H := H1
                                          clear H1
                                          obtain rfl := Option.some.inj H
                                          go_wp2_with (first | ((with_reducible refine gate_callee (f := 17) rfl ?_); refine goesL_ (some 107) rfl rfl Try.func17 (by kernel_rfl) rfl #[.string x15_5] rfl (by (try simp only [List.map_toArray, List.map_cons, List.map_nil]); first | done | rfl | (simp only [List.length_drop, List.length_take]; rfl)) ?_; (with_reducible refine (impl_WordsOf.calls x15_5 t118 true _ A38.out).mono ?_); rintro e w46 ⟨v120, rfl, ho0, hb⟩; refine ⟨_, rfl, ?_⟩; have n0_ := mz (Kd.R_elder' (by (with_reducible repeat (first | apply Kd.R_alloc | apply Kd.R_drewN | apply Kd.R_drew)); exact HO_5.out) (Kd.R_base ho0) hb); have n1_ := mz (Kd.R_elder' (by (with_reducible repeat (first | apply Kd.R_alloc | apply Kd.R_drewN | apply Kd.R_drew)); exact HO_90.out) (Kd.R_base ho0) hb); have n2_ := mz (Kd.R_lower (Kd.R_new' (Kd.R_new' ho0 (Kd.R_lt (by (with_reducible repeat (first | apply Kd.R_alloc | apply Kd.R_drewN | apply Kd.R_drew)); exact HO_5.out))) (Kd.R_lt (by (with_reducible repeat (first | apply Kd.R_alloc | apply Kd.R_drewN | apply Kd.R_drew)); exact HO_90.out))) (below_size (by repeat (first | (with_reducible first | exact HB.out | apply below_alloc | apply pw_below_drewN | apply below_drew1) | exact HB.out)))); have n3_ := mz (below_step (by repeat (first | (with_reducible first | exact HB.out | apply below_alloc | apply pw_below_drewN | apply below_drew1) | exact HB.out)) hb); clear HO_5; clear HO_90; clear HB; have HO_5 := n0_; have HO_90 := n1_; have HO121 := n2_; have HB := n3_; clear n0_ n1_ n2_ n3_; (try clear hb); (try clear hb2); (try clear hk); (try clear hi); (try clear ho0)) | ((with_reducible refine gate_callee (f := 18) rfl ?_); refine goesL_ (some 111) rfl rfl Try.func18 (by kernel_rfl) rfl #[.string x15_5] rfl (by (try simp only [List.map_toArray, List.map_cons, List.map_nil]); first | done | rfl | (simp only [List.length_drop, List.length_take]; rfl)) ?_; (with_reducible refine (spec_GoodText.calls k5 x15_5 true _ A39.out).mono ?_); rintro e w' ⟨rfl, ⟨nd, rfl⟩⟩; refine ⟨_, rfl, ?_⟩; obtain ⟨Ao47, co47, eo47⟩ := Kd.R_slice HO121.out; subst eo47) | (go_at_call 8; (with_reducible refine (laws_sameTexts.calls k5 _ _ t118 _ _ t101 false _ ?side1 ?side2 ?side3 ?side4 A42.out).mono ?_); (case side1 => repeat (first | exact (Kd.R_reads' HO121.out).2.2 | (with_reducible refine Kd.C_alloc ?_ _) | (with_reducible refine Kd.C_drewN ?_ _) | (with_reducible refine Kd.C_drew ?_))); (case side2 => exact (Kd.R_reads' HO121.out).2.1); (case side3 => repeat (first | exact (Kd.R_reads' HO_5.out).2.2 | (with_reducible refine Kd.C_alloc ?_ _) | (with_reducible refine Kd.C_drewN ?_ _) | (with_reducible refine Kd.C_drew ?_))); (case side4 => exact (Kd.R_reads' HO_5.out).2.1); rintro e w' ⟨rfl, ⟨nd, rfl⟩⟩))
                                          go_ret
                                          exact ⟨by first | rfl | (simp [errW_none, errW_some] <;> rfl) | (simp [*, errW_none, errW_some] <;> rfl), by repeat (first | (with_reducible first | exact HB.out | apply below_alloc | apply pw_below_drewN | apply below_drew1) | exact HB.out)⟩
                                      · replace c41 := Bool.eq_false_iff.mpr c41
                                        subst c41
                                        have H1 : (some false) = some r := by rw [if_neg (show ¬ (false = true) by decide)] at H; exact H
                                        clear H
                                        have H := H1
                                        clear H1
                                        obtain rfl := Option.some.inj H
                                        go_wp2_with (first | ((with_reducible refine gate_callee (f := 17) rfl ?_); refine goesL_ (some 107) rfl rfl Try.func17 (by kernel_rfl) rfl #[.string x15_5] rfl (by (try simp only [List.map_toArray, List.map_cons, List.map_nil]); first | done | rfl | (simp only [List.length_drop, List.length_take]; rfl)) ?_; (with_reducible refine (impl_WordsOf.calls x15_5 t118 false _ A38.out).mono ?_); rintro e w48 ⟨v120, rfl, ho0, hb⟩; refine ⟨_, rfl, ?_⟩; have n0_ := mz (Kd.R_elder' (by (with_reducible repeat (first | apply Kd.R_alloc | apply Kd.R_drewN | apply Kd.R_drew)); exact HO_5.out) (Kd.R_base ho0) hb); have n1_ := mz (Kd.R_elder' (by (with_reducible repeat (first | apply Kd.R_alloc | apply Kd.R_drewN | apply Kd.R_drew)); exact HO_90.out) (Kd.R_base ho0) hb); have n2_ := mz (Kd.R_lower (Kd.R_new' (Kd.R_new' ho0 (Kd.R_lt (by (with_reducible repeat (first | apply Kd.R_alloc | apply Kd.R_drewN | apply Kd.R_drew)); exact HO_5.out))) (Kd.R_lt (by (with_reducible repeat (first | apply Kd.R_alloc | apply Kd.R_drewN | apply Kd.R_drew)); exact HO_90.out))) (below_size (by repeat (first | (with_reducible first | exact HB.out | apply below_alloc | apply pw_below_drewN | apply below_drew1) | exact HB.out)))); have n3_ := mz (below_step (by repeat (first | (with_reducible first | exact HB.out | apply below_alloc | apply pw_below_drewN | apply below_drew1) | exact HB.out)) hb); clear HO_5; clear HO_90; clear HB; have HO_5 := n0_; have HO_90 := n1_; have HO121 := n2_; have HB := n3_; clear n0_ n1_ n2_ n3_; (try clear hb); (try clear hb2); (try clear hk); (try clear hi); (try clear ho0)) | ((with_reducible refine gate_callee (f := 18) rfl ?_); refine goesL_ (some 111) rfl rfl Try.func18 (by kernel_rfl) rfl #[.string x15_5] rfl (by (try simp only [List.map_toArray, List.map_cons, List.map_nil]); first | done | rfl | (simp only [List.length_drop, List.length_take]; rfl)) ?_; (with_reducible refine (spec_GoodText.calls k5 x15_5 true _ A39.out).mono ?_); rintro e w' ⟨rfl, ⟨nd, rfl⟩⟩; refine ⟨_, rfl, ?_⟩))
                                        go_ret
                                        exact ⟨by first | rfl | (simp [errW_none, errW_some] <;> rfl) | (simp [*, errW_none, errW_some] <;> rfl), by repeat (first | (with_reducible first | exact HB.out | apply below_alloc | apply pw_below_drewN | apply below_drew1) | exact HB.out)⟩
                                    · replace c40 := Bool.eq_false_iff.mpr c40
                                      subst c40
                                      have H1 : (laws_FnWidths.j5 k5 l1) = some r := by rw [if_neg (show ¬ (false = true) by decide)] at H; exact H
                                      clear H
                                      have H := H1
                                      clear H1
                                      have H' := mz H
                                      clear H
                                      go_wp2_with (first | ((with_reducible refine gate_callee (f := 17) rfl ?_); refine goesL_ (some 107) rfl rfl Try.func17 (by kernel_rfl) rfl #[.string x15_5] rfl (by (try simp only [List.map_toArray, List.map_cons, List.map_nil]); first | done | rfl | (simp only [List.length_drop, List.length_take]; rfl)) ?_; (with_reducible refine (impl_WordsOf.calls x15_5 t118 t119 _ A38.out).mono ?_); rintro e w49 ⟨v120, rfl, ho0, hb⟩; refine ⟨_, rfl, ?_⟩; have n0_ := mz (Kd.R_elder' (by (with_reducible repeat (first | apply Kd.R_alloc | apply Kd.R_drewN | apply Kd.R_drew)); exact HO_5.out) (Kd.R_base ho0) hb); have n1_ := mz (Kd.R_elder' (by (with_reducible repeat (first | apply Kd.R_alloc | apply Kd.R_drewN | apply Kd.R_drew)); exact HO_90.out) (Kd.R_base ho0) hb); have n2_ := mz (Kd.R_lower (Kd.R_new' (Kd.R_new' ho0 (Kd.R_lt (by (with_reducible repeat (first | apply Kd.R_alloc | apply Kd.R_drewN | apply Kd.R_drew)); exact HO_5.out))) (Kd.R_lt (by (with_reducible repeat (first | apply Kd.R_alloc | apply Kd.R_drewN | apply Kd.R_drew)); exact HO_90.out))) (below_size (by repeat (first | (with_reducible first | exact HB.out | apply below_alloc | apply pw_below_drewN | apply below_drew1) | exact HB.out)))); have n3_ := mz (below_step (by repeat (first | (with_reducible first | exact HB.out | apply below_alloc | apply pw_below_drewN | apply below_drew1) | exact HB.out)) hb); clear HO_5; clear HO_90; clear HB; have HO_5 := n0_; have HO_90 := n1_; have HO121 := n2_; have HB := n3_; clear n0_ n1_ n2_ n3_; (try clear hb); (try clear hb2); (try clear hk); (try clear hi); (try clear ho0)) | ((with_reducible refine gate_callee (f := 18) rfl ?_); refine goesL_ (some 111) rfl rfl Try.func18 (by kernel_rfl) rfl #[.string x15_5] rfl (by (try simp only [List.map_toArray, List.map_cons, List.map_nil]); first | done | rfl | (simp only [List.length_drop, List.length_take]; rfl)) ?_; (with_reducible refine (spec_GoodText.calls k5 x15_5 false _ A39.out).mono ?_); rintro e w' ⟨rfl, ⟨nd, rfl⟩⟩; refine ⟨_, rfl, ?_⟩))
                                      go_meet
                                      case rel => exact ⟨_, H', ⟨by have := HJ6.out; have := HJ13.out; have := HJ18.out; have := HJ24.out; have := HK5.out; first | omega | exact Nat.le_refl _⟩, ⟨by repeat (first | (with_reducible first | exact HB.out | apply below_alloc | apply pw_below_drewN | apply below_drew1) | exact HB.out)⟩⟩
                · replace c17 := Bool.eq_false_iff.mpr c17
                  subst c17
                  have H1 : (laws_FnWidths.j5 kj13 l1) = some r := by rw [if_neg (show ¬ (false = true) by decide)] at H; exact H
                  clear H
                  have H := H1
                  clear H1
                  have H' := mz H
                  clear H
                  go_wp2
                  go_meet
                  case rel => exact ⟨_, H', ⟨by have := HJ6.out; have := HJ13.out; first | omega | exact Nat.le_refl _⟩, ⟨by repeat (first | (with_reducible first | exact HB.out | apply below_alloc | apply pw_below_drewN | apply below_drew1) | exact HB.out)⟩⟩
              case rest =>
                clear HC16
                try clear c1
                try clear p1
                try clear q1
                try clear hx1
                try clear c2
                try clear p2
                try clear c3
                try clear c3b0
                try clear c4
                try clear p6
                try clear c10
                try clear p11
                try clear q11
                try clear hx11
                try clear c12
                try clear c12b0
                try clear c12b1
                try clear c12b2
                try clear c13
                try clear c14
                try clear c15
                try clear c16
                try clear c17
                try clear c18
                try clear c21
                try clear c23
                try clear c27
                try clear c29
                try clear c31
                try clear c31b0
                try clear c32
                try clear c32b0
                try clear c33
                try clear c33b0
                try clear c34
                try clear c34b0
                try clear c35
                try clear c35b0
                try clear c35b1
                try clear c35b2
                try clear c36
                try clear c36b0
                try clear c36b1
                try clear c36b2
                try clear c37
                try clear c37b0
                try clear c37b1
                try clear c37b2
                try clear c40
                try clear c41
                try clear c43
                try clear hx117_0
                try clear p117
                try clear p2
                try clear p6
                try clear q117
                obtain ⟨kq, HA, HJ15, HB⟩ := hcut
                cases kq with
                | zero => exact absurd HA.out (by simp [laws_FnWidths.j5])
                | succ kj15 =>
                  have H := HA.out
                  clear HA
                  simp only [laws_FnWidths.j5] at H
                  replace H := be0_ H
                  obtain ⟨t124, A500, H⟩ := H
                  replace H : ((impl_WordsOf.f t124).bind fun bt125 => ((spec_WordsOf.f kj15 t124).bind fun bt129 => (if (bt125.2 == bt129.2) = true then ((laws_sameTexts.f kj15 bt125.1 bt129.1).bind fun t133 => (some t133)) else (some false)))) = some r := H
                  have A50 := mz A500
                  clear A500
                  replace H := be0_ H
                  obtain ⟨⟨t125, t126⟩, A510, H⟩ := H
                  replace H : ((spec_WordsOf.f kj15 t124).bind fun bt129 => (if (t126 == bt129.2) = true then ((laws_sameTexts.f kj15 t125 bt129.1).bind fun t133 => (some t133)) else (some false))) = some r := H
                  have A51 := mz A510
                  clear A510
                  replace H := be0_ H
                  obtain ⟨⟨t129, t130⟩, A520, H⟩ := H
                  replace H : (if (t126 == t130) = true then ((laws_sameTexts.f kj15 t125 t129).bind fun t133 => (some t133)) else (some false)) = some r := H
                  have A52 := mz A520
                  clear A520
                  by_cases c53 : (t126 == t130) = true
                  · rw [if_pos c53] at H
                    have c53b0 : (t126 == t130) = true := c53
                    (try (have c53b1 : decide (t126 = t130) = true := by simpa using c53))
                    (try (have c53b2 : (t126 == t130) = true := by simpa using c53))
                    clear c53
                    replace H := be0_ H
                    obtain ⟨t133, A540, H⟩ := H
                    replace H : (some t133) = some r := H
                    have A54 := mz A540
                    clear A540
                    obtain rfl := Option.some.inj H
                    go_wp2_with (first | ((with_reducible refine gate_callee (f := 19) rfl ?_); refine goesL_ (some 123) rfl rfl Try.func19 (by kernel_rfl) rfl #[.slice A1 l1.length c1] rfl (by (try simp only [List.map_toArray, List.map_cons, List.map_nil]); first | done | rfl | (simp only [List.length_drop, List.length_take]; rfl)) ?_; (with_reducible refine (spec_DrawWordsOf.calls kj15 _ _ l1 t124 _ ?side1 ?side2 A50.out).mono ?_); (case side1 => repeat (first | exact (Kd.C_below HR1.out HB.out) | (with_reducible refine Kd.C_alloc ?_ _) | (with_reducible refine Kd.C_drewN ?_ _) | (with_reducible refine Kd.C_drew ?_))); (case side2 => exact HC1.out); rintro e w55 ⟨rfl, hb⟩; refine ⟨_, rfl, ?_⟩; have n0_ := mz (below_step (by repeat (first | (with_reducible first | exact HB.out | apply below_alloc | apply pw_below_drewN | apply below_drew1) | exact HB.out)) hb); clear HB; have HB := n0_; clear n0_; (try clear hb); (try clear hb2); (try clear hk); (try clear hi)) | ((with_reducible refine gate_callee (f := 17) rfl ?_); refine goesL_ (some 126) rfl rfl Try.func17 (by kernel_rfl) rfl #[.string t124] rfl (by (try simp only [List.map_toArray, List.map_cons, List.map_nil]); first | done | rfl | (simp only [List.length_drop, List.length_take]; rfl)) ?_; (with_reducible refine (impl_WordsOf.calls t124 t125 t126 _ A51.out).mono ?_); rintro e w56 ⟨v127, rfl, ho0, hb⟩; refine ⟨_, rfl, ?_⟩; have n0_ := mz (Kd.R_lower ho0 (below_size (by repeat (first | (with_reducible first | exact HB.out | apply below_alloc | apply pw_below_drewN | apply below_drew1) | exact HB.out)))); have n1_ := mz (below_step (by repeat (first | (with_reducible first | exact HB.out | apply below_alloc | apply pw_below_drewN | apply below_drew1) | exact HB.out)) hb); clear HB; have HO128 := n0_; have HB := n1_; clear n0_ n1_; (try clear hb); (try clear hb2); (try clear hk); (try clear hi); (try clear ho0)) | ((with_reducible refine gate_callee (f := 20) rfl ?_); refine goesL_ (some 131) rfl rfl Try.func20 (by kernel_rfl) rfl #[.string t124] rfl (by (try simp only [List.map_toArray, List.map_cons, List.map_nil]); first | done | rfl | (simp only [List.length_drop, List.length_take]; rfl)) ?_; (with_reducible refine (spec_WordsOf.calls kj15 t124 t129 t130 _ A52.out).mono ?_); rintro e w57 ⟨v131, rfl, ho0, hb⟩; refine ⟨_, rfl, ?_⟩; have n0_ := mz (Kd.R_elder' (by (with_reducible repeat (first | apply Kd.R_alloc | apply Kd.R_drewN | apply Kd.R_drew)); exact HO128.out) (Kd.R_base ho0) hb); have n1_ := mz (Kd.R_lower (Kd.R_new' ho0 (Kd.R_lt (by (with_reducible repeat (first | apply Kd.R_alloc | apply Kd.R_drewN | apply Kd.R_drew)); exact HO128.out))) (below_size (by repeat (first | (with_reducible first | exact HB.out | apply below_alloc | apply pw_below_drewN | apply below_drew1) | exact HB.out)))); have n2_ := mz (below_step (by repeat (first | (with_reducible first | exact HB.out | apply below_alloc | apply pw_below_drewN | apply below_drew1) | exact HB.out)) hb); clear HO128; clear HB; have HO128 := n0_; have HO132 := n1_; have HB := n2_; clear n0_ n1_ n2_; (try clear hb); (try clear hb2); (try clear hk); (try clear hi); (try clear ho0); obtain ⟨Ao58, co58, eo58⟩ := Kd.R_slice HO128.out; subst eo58; obtain ⟨Ao59, co59, eo59⟩ := Kd.R_slice HO132.out; subst eo59) | (go_at_call 8; (with_reducible refine (laws_sameTexts.calls kj15 _ _ t125 _ _ t129 t133 _ ?side1 ?side2 ?side3 ?side4 A54.out).mono ?_); (case side1 => repeat (first | exact (Kd.R_reads' HO128.out).2.2 | (with_reducible refine Kd.C_alloc ?_ _) | (with_reducible refine Kd.C_drewN ?_ _) | (with_reducible refine Kd.C_drew ?_))); (case side2 => exact (Kd.R_reads' HO128.out).2.1); (case side3 => repeat (first | exact (Kd.R_reads' HO132.out).2.2 | (with_reducible refine Kd.C_alloc ?_ _) | (with_reducible refine Kd.C_drewN ?_ _) | (with_reducible refine Kd.C_drew ?_))); (case side4 => exact (Kd.R_reads' HO132.out).2.1); rintro e w' ⟨rfl, ⟨nd, rfl⟩⟩))
                    go_ret
                    exact ⟨by first | rfl | (simp [errW_none, errW_some] <;> rfl) | (simp [*, errW_none, errW_some] <;> rfl), by repeat (first | (with_reducible first | exact HB.out | apply below_alloc | apply pw_below_drewN | apply below_drew1) | exact HB.out)⟩
                  · rw [if_neg c53] at H
                    have c53b0 : (t126 == t130) = false := by simpa using c53
                    (try (have c53b1 : decide (t126 = t130) = false := by simpa using c53))
                    (try (have c53b2 : (t126 == t130) = false := by simpa using c53))
                    (try (have c53b3 : ¬ (t126 = t130) := by simpa using c53))
                    clear c53
                    obtain rfl := Option.some.inj H
                    go_wp2_with (first | ((with_reducible refine gate_callee (f := 19) rfl ?_); refine goesL_ (some 123) rfl rfl Try.func19 (by kernel_rfl) rfl #[.slice A1 l1.length c1] rfl (by (try simp only [List.map_toArray, List.map_cons, List.map_nil]); first | done | rfl | (simp only [List.length_drop, List.length_take]; rfl)) ?_; (with_reducible refine (spec_DrawWordsOf.calls kj15 _ _ l1 t124 _ ?side1 ?side2 A50.out).mono ?_); (case side1 => repeat (first | exact (Kd.C_below HR1.out HB.out) | (with_reducible refine Kd.C_alloc ?_ _) | (with_reducible refine Kd.C_drewN ?_ _) | (with_reducible refine Kd.C_drew ?_))); (case side2 => exact HC1.out); rintro e w60 ⟨rfl, hb⟩; refine ⟨_, rfl, ?_⟩; have n0_ := mz (below_step (by repeat (first | (with_reducible first | exact HB.out | apply below_alloc | apply pw_below_drewN | apply below_drew1) | exact HB.out)) hb); clear HB; have HB := n0_; clear n0_; (try clear hb); (try clear hb2); (try clear hk); (try clear hi)) | ((with_reducible refine gate_callee (f := 17) rfl ?_); refine goesL_ (some 126) rfl rfl Try.func17 (by kernel_rfl) rfl #[.string t124] rfl (by (try simp only [List.map_toArray, List.map_cons, List.map_nil]); first | done | rfl | (simp only [List.length_drop, List.length_take]; rfl)) ?_; (with_reducible refine (impl_WordsOf.calls t124 t125 t126 _ A51.out).mono ?_); rintro e w61 ⟨v127, rfl, ho0, hb⟩; refine ⟨_, rfl, ?_⟩; have n0_ := mz (Kd.R_lower ho0 (below_size (by repeat (first | (with_reducible first | exact HB.out | apply below_alloc | apply pw_below_drewN | apply below_drew1) | exact HB.out)))); have n1_ := mz (below_step (by repeat (first | (with_reducible first | exact HB.out | apply below_alloc | apply pw_below_drewN | apply below_drew1) | exact HB.out)) hb); clear HB; have HO128 := n0_; have HB := n1_; clear n0_ n1_; (try clear hb); (try clear hb2); (try clear hk); (try clear hi); (try clear ho0)) | ((with_reducible refine gate_callee (f := 20) rfl ?_); refine goesL_ (some 131) rfl rfl Try.func20 (by kernel_rfl) rfl #[.string t124] rfl (by (try simp only [List.map_toArray, List.map_cons, List.map_nil]); first | done | rfl | (simp only [List.length_drop, List.length_take]; rfl)) ?_; (with_reducible refine (spec_WordsOf.calls kj15 t124 t129 t130 _ A52.out).mono ?_); rintro e w62 ⟨v131, rfl, ho0, hb⟩; refine ⟨_, rfl, ?_⟩; have n0_ := mz (Kd.R_elder' (by (with_reducible repeat (first | apply Kd.R_alloc | apply Kd.R_drewN | apply Kd.R_drew)); exact HO128.out) (Kd.R_base ho0) hb); have n1_ := mz (Kd.R_lower (Kd.R_new' ho0 (Kd.R_lt (by (with_reducible repeat (first | apply Kd.R_alloc | apply Kd.R_drewN | apply Kd.R_drew)); exact HO128.out))) (below_size (by repeat (first | (with_reducible first | exact HB.out | apply below_alloc | apply pw_below_drewN | apply below_drew1) | exact HB.out)))); have n2_ := mz (below_step (by repeat (first | (with_reducible first | exact HB.out | apply below_alloc | apply pw_below_drewN | apply below_drew1) | exact HB.out)) hb); clear HO128; clear HB; have HO128 := n0_; have HO132 := n1_; have HB := n2_; clear n0_ n1_ n2_; (try clear hb); (try clear hb2); (try clear hk); (try clear hi); (try clear ho0)))
                    go_ret
                    exact ⟨by first | rfl | (simp [errW_none, errW_some] <;> rfl) | (simp [*, errW_none, errW_some] <;> rfl), by repeat (first | (with_reducible first | exact HB.out | apply below_alloc | apply pw_below_drewN | apply below_drew1) | exact HB.out)⟩
end
def Opens {α : Type} (P : Program) (t : TypeId) (d : Kd α) (B : α → Prop) : Prop :=
  ∀ (H : Type) (enc : TypeId × Value → H) (W : World) (fuel : Nat) (cs : List Value) (x : DataW H × List MemPlace),
    DataW.trod enc P W 0 (fun _ => true) true fuel t cs = some x → ∃ y : α, d.K W y cs ∧ B y

theorem opens_int {P : Program} {t : TypeId} {k : IntKind} (ht : P.underlying t = some (.int k)) : Opens P t (Kd.int k) (fun n => (Lit.int k n).wf = true) := by
  intro H enc W fuel cs x h
  obtain ⟨n, rfl, _, hw⟩ := DataW.trod_int ht h
  exact ⟨n, rfl, hw⟩
theorem list_of {α : Type} (Q : Nat → α → Prop) (n : Nat) (h : ∀ i, i < n → ∃ y, Q i y) : ∃ ys : List α, ys.length = n ∧ ∀ i y, ys[i]? = some y → Q i y := by
  induction n with
  | zero => exact ⟨[], rfl, fun i y hy => by simp at hy⟩
  | succ n ih =>
    obtain ⟨ys, hl, hq⟩ := ih (fun i hi => h i (by omega))
    obtain ⟨y, hy⟩ := h n (by omega)
    refine ⟨ys ++ [y], by simp [hl], fun i z hz => ?_⟩
    rcases Nat.lt_or_ge i ys.length with hi | hi
    · rw [List.getElem?_append_left hi] at hz
      exact hq i z hz
    · have hi' : i = n := by
        have := (List.getElem?_eq_some_iff.1 hz).1
        simp at this
        omega
      subst hi'
      rw [List.getElem?_append_right hi, hl, Nat.sub_self] at hz
      have : y = z := by simpa using hz
      subst this
      exact hy

theorem opens_slice {α : Type} {P : Program} {t e : TypeId} {d : Kd α} {B : α → Prop} (ht : P.underlying t = some (.slice e)) (hc : P.cellsOf e = d.sz) (hd : Opens P e d B) :
    Opens P t (Kd.slice e d) (fun l => l.length ≤ maxLen ∧ ∀ x ∈ l, B x) := by
  intro H enc W fuel cs x h
  rcases DataW.trod_slice ht h with ⟨rfl, _⟩ | ⟨a, len, cap, elems, rest, n, _, rfl, _, _, hl, hm, hlen, hel, _, _⟩
  · exact ⟨[], ⟨none, 0, rfl, Nat.le_refl _, rfl, by simp, fun h0 => absurd h0 (by simp)⟩, by simp, by simp⟩
  · have each : ∀ i, i < len → ∃ y : α, (∃ c, W.cells? 0 (a.add (i * P.cellsOf e)) (P.cellsOf e) = some c ∧ d.K W y c) ∧ B y := by
      intro i hi
      have h1 := hel i hi
      rw [List.getElem?_eq_getElem (by omega), Option.bind_eq_some_iff] at h1
      obtain ⟨c, h2, h3⟩ := h1
      obtain ⟨y, h4, h5⟩ := hd H enc W n c _ h3
      exact ⟨y, ⟨c, h2, h4⟩, h5⟩
    obtain ⟨ys, hys, hq⟩ := list_of _ len each
    refine ⟨ys, ⟨some a, cap, by rw [hys], by rw [hys]; exact hl, rfl, ?_, fun _ => ⟨a, rfl, fun j p hj => ?_⟩⟩, by rw [hys]; exact Nat.le_trans hl hm, fun z hz => ?_⟩
    · rw [hys]
      have := Nat.le_trans hl hm
      simp only [maxLen] at this
      exact this
    · obtain ⟨⟨c, h2, h3⟩, _⟩ := hq j p hj
      refine ⟨c, d.K_len h3, h3, fun i u hu => ?_⟩
      have hi : i < P.cellsOf e := by rw [hc, ← d.K_len h3]; exact (List.getElem?_eq_some_iff.1 hu).1
      have := (World.cells?_some h2).2.2 i hi
      rw [Addr.add_add, hc] at this
      rw [this, hu]
    · obtain ⟨j, hj, rfl⟩ := List.getElem_of_mem hz
      exact (hq j _ (List.getElem?_eq_getElem hj)).2
section
attribute [local go_sem] max2_int min2_int max_two min_two max_three min_three max_four min_four

end
section
attribute [local go_sem] max2_int min2_int max_two min_two max_three min_three max_four min_four
def PureFnWidths : Prop := ∀ (l0 : List Int), ∀ (l1 : List Int), (l0.length ≤ maxLen ∧ ∀ y ∈ l0, (Lit.int .u8 y).wf = true) → (l1.length ≤ maxLen ∧ ∀ y ∈ l1, (Lit.int .u8 y).wf = true) → ∃ k, laws_FnWidths.f k l0 l1 = some true
end
abbrev blankB : ByteArray := ⟨#[32]⟩
theorem blankB_size : blankB.size = 1 := rfl

def saidB (ws : List ByteArray) (w : Int) : Bool := decide (ws.length ≤ 60) && ws.all isWordB && (decide (1 ≤ w) && decide (w ≤ 80)) && ws.all (fun s => decide ((s.size : Int) ≤ w))

theorem allFit_val (ws : List ByteArray) (w : Int) (hs : ∀ s ∈ ws, s.size ≤ maxLen) : impl_allFit.f ws w = some (saidB ws w) := by
  unfold impl_allFit.f saidB
  rw [if_pos (by simpa using hs)]
theorem areWords_val (ws : List ByteArray) (hs : ∀ s ∈ ws, s.size ≤ maxLen) : impl_areWords.f ws = some (decide (ws.length ≤ 60) && ws.all isWordB) := by
  unfold impl_areWords.f
  rw [if_pos (by simpa using hs)]

theorem l1In_val (a lo hi : Int) : spec_l1In.f a lo hi = some (decide (lo ≤ a) && decide (a ≤ hi)) := by
  unfold spec_l1In.f
  by_cases h : a ≥ lo
  · rw [if_pos h, decide_eq_true (show lo ≤ a from h)]; simp
  · rw [if_neg h, decide_eq_false (show ¬ lo ≤ a from h)]; simp

theorem said_loop (ws : List ByteArray) (w : Int) (hl : ws.length ≤ 9223372036854775807) (hs : ∀ s ∈ ws, s.size ≤ maxLen) (d : Nat) : ∀ i : Nat, i + d = ws.length →
    Ev (fun k => spec_l13Said.l0 k ws w ws (ws.length : Int) (i : Int)) ((ws.drop i).all (fun s => isWordB s && decide ((s.size : Int) ≤ w)) && decide (ws.length ≤ 60) && (decide (1 ≤ w) && decide (w ≤ 80))) := by
  induction d with
  | zero =>
    intro i h
    refine Ev.succ ?_
    simp only [spec_l13Said.l0, if_neg (show ¬ ((i : Int) < (ws.length : Int)) by omega), l1In_val, Option.bind_some]
    rw [List.drop_eq_nil_of_le (by omega)]
    by_cases h60 : ws.length ≤ 60
    · simp only [if_pos (show (ws.length : Int) ≤ 60 by omega)]
      refine ev_eq (Ev.now _) ?_
      simp [h60]
    · simp only [if_neg (show ¬ (ws.length : Int) ≤ 60 by omega)]
      refine ev_eq (Ev.now _) ?_
      simp [h60]
  | succ d ih =>
    intro i h
    have e : ws.drop i = ws[i] :: ws.drop (i + 1) := List.drop_eq_getElem_cons (by omega)
    refine Ev.succ ?_
    simp only [spec_l13Said.l0, if_pos (show ((i : Int) < (ws.length : Int)) by omega), if_pos (show (0 : Int) ≤ i by omega), rdOf_get _ ws i (by omega), w64 (show -9223372036854775808 ≤ (i : Int) + 1 by omega) (by omega)]
    refine Ev.bind (l13Word_ev ws[i] (hs _ (List.getElem_mem (by omega)))) ?_
    rw [e, List.all_cons]
    cases hq : isWordB ws[i] with
    | false => simp only [Bool.false_eq_true, if_false, Bool.false_and]; exact Ev.now _
    | true =>
      simp only [if_true]
      by_cases hw : (ws[i].size : Int) > w
      · simp only [if_pos hw]
        refine ev_eq (Ev.now _) ?_
        rw [decide_eq_false (show ¬ (ws[i].size : Int) ≤ w by omega)]; simp
      · simp only [if_neg hw]
        refine ev_eq (ih (i + 1) (by omega)) ?_
        rw [decide_eq_true (show (ws[i].size : Int) ≤ w by omega)]; simp
theorem said_ev (ws : List ByteArray) (w : Int) (hl : ws.length ≤ maxLen) (hs : ∀ s ∈ ws, s.size ≤ maxLen) : Ev (fun k => spec_l13Said.f k ws w) (saidB ws w) := by
  refine ev_eq (said_loop ws w (by simpa [maxLen] using hl) hs ws.length 0 (by omega)) ?_
  unfold saidB
  rw [List.drop_zero, Bool.eq_iff_iff]
  simp only [Bool.and_eq_true, List.all_eq_true, decide_eq_true_eq]
  constructor
  · rintro ⟨⟨h1, h2⟩, h3⟩
    exact ⟨⟨⟨h2, fun s h => (h1 s h).1⟩, h3⟩, fun s h => (h1 s h).2⟩
  · rintro ⟨⟨⟨h2, h1⟩, h3⟩, h4⟩
    exact ⟨⟨fun s h => ⟨h1 s h, h4 s h⟩, h2⟩, h3⟩
theorem isWordB_size {s : ByteArray} (h : isWordB s = true) : 1 ≤ s.size ∧ s.size ≤ 80 := by
  unfold isWordB at h
  simp only [Bool.and_eq_true, decide_eq_true_eq] at h
  exact ⟨h.1.2, h.2⟩
theorem saidB_of {ws : List ByteArray} {w : Int} (h : saidB ws w = true) : ws.length ≤ 60 ∧ (∀ s ∈ ws, 1 ≤ s.size ∧ s.size ≤ 80 ∧ (s.size : Int) ≤ w) ∧ 1 ≤ w ∧ w ≤ 80 ∧ ∀ s ∈ ws, isWordB s = true := by
  unfold saidB at h
  simp only [Bool.and_eq_true, List.all_eq_true, decide_eq_true_eq] at h
  obtain ⟨⟨⟨h1, h2⟩, h3, h4⟩, h5⟩ := h
  exact ⟨h1, fun s hs => ⟨(isWordB_size (h2 s hs)).1, (isWordB_size (h2 s hs)).2, h5 s hs⟩, h3, h4, h2⟩

def joinGo (acc : ByteArray) : List ByteArray → ByteArray
  | [] => acc
  | s :: l => joinGo (acc ++ blankB ++ s) l
def joinB : List ByteArray → ByteArray
  | [] => ⟨#[]⟩
  | s :: l => joinGo s l
theorem joinGo_size (acc : ByteArray) (l : List ByteArray) : (joinGo acc l).size = acc.size + (l.map (fun s => s.size + 1)).sum := by
  induction l generalizing acc with
  | nil => simp [joinGo]
  | cons s l ih => rw [joinGo, ih]; simp [ByteArray.size_append, blankB_size]; omega
theorem joinGo_append (acc : ByteArray) (l m : List ByteArray) : joinGo acc (l ++ m) = joinGo (joinGo acc l) m := by
  induction l generalizing acc with
  | nil => rfl
  | cons s l ih => rw [List.cons_append, joinGo, joinGo, ih]
theorem sum_bd (l : List ByteArray) (b : Nat) (h : ∀ s ∈ l, s.size ≤ b) : (l.map (fun s => s.size + 1)).sum ≤ l.length * (b + 1) := by
  induction l with
  | nil => simp
  | cons s l ih =>
    have h1 := h s (List.mem_cons_self ..)
    have h2 := ih (fun t ht => h t (List.mem_cons_of_mem _ ht))
    simp only [List.map_cons, List.sum_cons, List.length_cons, Nat.add_mul]
    omega

theorem join_loop (ws : List ByteArray) (hl : ws.length ≤ 1000000) (hs : ∀ s ∈ ws, s.size ≤ 1048576) (d : Nat) : ∀ (i : Nat) (acc : ByteArray), 0 < i → i + d = ws.length → acc.size ≤ i * 1048577 →
    Ev (fun k => spec_l13Join.l0 k acc ws (ws.length : Int) (i : Int)) (joinGo acc (ws.drop i)) := by
  induction d with
  | zero =>
    intro i acc h0 h ha
    refine Ev.succ ?_
    simp only [spec_l13Join.l0, if_neg (show ¬ ((i : Int) < (ws.length : Int)) by omega)]
    rw [List.drop_eq_nil_of_le (by omega)]
    exact Ev.now _
  | succ d ih =>
    intro i acc h0 h ha
    have e : ws.drop i = ws[i] :: ws.drop (i + 1) := List.drop_eq_getElem_cons (by omega)
    have hz := hs ws[i] (List.getElem_mem (by omega))
    refine Ev.succ ?_
    simp only [spec_l13Join.l0, if_pos (show ((i : Int) < (ws.length : Int)) by omega), if_pos (show (0 : Int) ≤ i by omega), if_pos (show (i : Int) > 0 by omega), rdOf_get _ ws i (by omega), w64 (show -9223372036854775808 ≤ (i : Int) + 1 by omega) (by omega), if_pos (show acc.size + 1 ≤ 9223372036854775807 by omega)]
    simp only [if_pos (show (acc ++ (⟨#[32]⟩ : ByteArray)).size + ws[i].size ≤ 9223372036854775807 by rw [ByteArray.size_append]; show acc.size + 1 + _ ≤ _; omega)]
    rw [e, joinGo]
    refine ih (i + 1) _ (by omega) (by omega) ?_
    rw [ByteArray.size_append, ByteArray.size_append]
    show acc.size + 1 + _ ≤ _
    omega

theorem join_ev (ws : List ByteArray) (hl : ws.length ≤ 1000000) (hs : ∀ s ∈ ws, s.size ≤ 1048576) : Ev (fun k => spec_l13Join.f k ws) (joinB ws) := by
  unfold spec_l13Join.f
  cases ws with
  | nil =>
    refine Ev.succ ?_
    simp only [spec_l13Join.l0, List.length_nil]
    exact Ev.now _
  | cons s l =>
    have hz := hs s (List.mem_cons_self ..)
    refine Ev.succ ?_
    have e0 : rdOf ByteArray.empty (s :: l) 0 = s := rfl
    simp only [spec_l13Join.l0, if_pos (show (0 : Int) < ((s :: l).length : Int) by rw [List.length_cons]; omega), if_pos (show (0 : Int) ≤ 0 by omega), if_neg (show ¬ (0 : Int) > 0 by omega), e0, w64 (show -9223372036854775808 ≤ (0 : Int) + 1 by omega) (by omega)]
    have z0 : (⟨#[]⟩ : ByteArray).size = 0 := rfl
    have z1 : (⟨#[]⟩ : ByteArray) ++ s = s := ByteArray.empty_append
    simp only [z0, if_pos (show 0 + s.size ≤ 9223372036854775807 by omega), z1]
    exact join_loop (s :: l) hl hs l.length 1 s (by omega) (by rw [List.length_cons]; omega) (by omega)


def greedyGo (w : Int) (cur : ByteArray) : List ByteArray → List ByteArray
  | [] => [cur]
  | x :: xs => if (cur.size : Int) + 1 + x.size ≤ w then greedyGo w (cur ++ blankB ++ x) xs else cur :: greedyGo w x xs
def greedyB (w : Int) : List ByteArray → List ByteArray
  | [] => []
  | x :: xs => greedyGo w x xs
theorem impl_greedy_loop (ws : List ByteArray) (w : Int) (hw : w ≤ 80) (hl : ws.length ≤ 60) (hs : ∀ s ∈ ws, s.size ≤ 80) (d : Nat) : ∀ (i : Nat) (done : List ByteArray) (cur : ByteArray), i + d = ws.length → done.length + 1 ≤ i → cur.size ≤ 80 →
    Ev (fun k => impl_greedy.l0 k w (done ++ [cur]) ws (ws.length : Int) (i : Int)) (done ++ greedyGo w cur (ws.drop i)) := by
  induction d with
  | zero =>
    intro i done cur h hd hc
    refine Ev.succ ?_
    simp only [impl_greedy.l0, if_neg (show ¬ ((i : Int) < (ws.length : Int)) by omega)]
    rw [List.drop_eq_nil_of_le (by omega)]
    exact Ev.now _
  | succ d ih =>
    intro i done cur h hd hc
    have e : ws.drop i = ws[i] :: ws.drop (i + 1) := List.drop_eq_getElem_cons (by omega)
    have hz := hs ws[i] (List.getElem_mem (by omega))
    have hk : wrap64 (((done ++ [cur]).length : Int) - 1) = (done.length : Int) := by
      rw [List.length_append, List.length_singleton]
      rw [w64 (by omega) (by omega)]; omega
    have hr : rdOf ByteArray.empty (done ++ [cur]) (done.length : Int) = cur := by rw [rdOf_get _ _ _ (by simp)]; simp
    refine Ev.succ ?_
    simp only [impl_greedy.l0, if_pos (show ((i : Int) < (ws.length : Int)) by omega), if_pos (show (0 : Int) ≤ i by omega), rdOf_get _ ws i (by omega), hk, hr, if_pos (show (done.length : Int) ≥ 0 by omega), if_pos (show (done.length : Int) < ((done ++ [cur]).length : Int) by rw [List.length_append, List.length_singleton]; omega), w64 (show -9223372036854775808 ≤ (i : Int) + 1 by omega) (by omega), w64 (show -9223372036854775808 ≤ (cur.size : Int) + 1 by omega) (by omega), w64 (show -9223372036854775808 ≤ (cur.size : Int) + 1 + (ws[i].size : Int) by omega) (by omega), Int.toNat_natCast]
    rw [e, greedyGo]
    by_cases hf : (cur.size : Int) + 1 + (ws[i].size : Int) ≤ w
    · simp only [if_pos hf, if_pos (show 1 + ws[i].size ≤ 9223372036854775807 by omega)]
      simp only [if_pos (show cur.size + ((⟨#[32]⟩ : ByteArray) ++ ws[i]).size ≤ 9223372036854775807 by rw [ByteArray.size_append]; show cur.size + (1 + _) ≤ _; omega)]
      have hset : (done ++ [cur]).set done.length (cur ++ (blankB ++ ws[i])) = done ++ [cur ++ blankB ++ ws[i]] := by rw [ByteArray.append_assoc]; simp
      rw [hset]
      refine ih (i + 1) done _ (by omega) (by omega) ?_
      rw [ByteArray.size_append, ByteArray.size_append, blankB_size]; omega
    · simp only [if_neg hf, if_pos (show (done ++ [cur]).length < 8796093022208 by simp; omega)]
      refine ev_eq (ih (i + 1) (done ++ [cur]) ws[i] (by omega) (by simp; omega) hz) ?_
      rw [List.append_assoc]; rfl
theorem impl_greedy_ev (ws : List ByteArray) (w : Int) (hw : w ≤ 80) (hl : ws.length ≤ 60) (hs : ∀ s ∈ ws, s.size ≤ 80) : Ev (fun k => impl_greedy.f k ws w) (greedyB w ws) := by
  unfold impl_greedy.f
  cases ws with
  | nil =>
    refine Ev.succ ?_
    simp only [impl_greedy.l0, List.length_nil]
    exact Ev.now _
  | cons s l =>
    refine Ev.succ ?_
    have e0 : rdOf ByteArray.empty (s :: l) 0 = s := rfl
    have en : wrap64 ((([] : List ByteArray).length : Int) - 1) = -1 := by rw [List.length_nil]; exact w64 (by omega) (by omega)
    simp only [impl_greedy.l0, if_pos (show (0 : Int) < ((s :: l).length : Int) by rw [List.length_cons]; omega), if_pos (show (0 : Int) ≤ 0 by omega), en, if_neg (show ¬ (-1 : Int) ≥ 0 by omega), e0, if_pos (show ([] : List ByteArray).length < 8796093022208 by simp), w64 (show -9223372036854775808 ≤ (0 : Int) + 1 by omega) (by omega)]
    exact impl_greedy_loop (s :: l) w hw hl hs l.length 1 [] s (by rw [List.length_cons]; omega) (by simp) (hs s (List.mem_cons_self ..))

theorem spec_greedy_in (w : Int) (hw : w ≤ 80) (rest : Nat) (ih : ∀ (m : List ByteArray) (out : List ByteArray), m.length < rest → (∀ s ∈ m, s.size ≤ 80) → out.length + m.length ≤ 60 → Ev (fun k => spec_l13Greedy.l0 k m w out) (out ++ greedyB w m)) :
    ∀ (d n : Nat) (ws out : List ByteArray), ws.length = rest → (∀ s ∈ ws, s.size ≤ 80) → out.length + ws.length ≤ 60 → 1 ≤ n → n + d = ws.length →
      Ev (fun k => spec_l13Greedy.l1 k ws w out (n : Int)) (out ++ greedyGo w (joinB (ws.take n)) (ws.drop n)) := by
  intro d
  induction d with
  | zero =>
    intro n ws out hr hs hl h1 hn
    refine Ev.succ ?_
    simp only [spec_l13Greedy.l1, if_neg (show ¬ ((n : Int) < (ws.length : Int)) by omega), if_pos (show (0 : Int) ≤ n by omega), if_pos (show (n : Int) ≤ (ws.length : Int) by omega), Int.toNat_natCast]
    refine Ev.bind (join_ev (ws.take n) (by rw [List.length_take]; omega) (fun s h => by have := hs s (List.mem_of_mem_take h); omega)) ?_
    simp only [if_pos (show out.length < 8796093022208 by omega)]
    refine ev_eq (ih (ws.drop n) _ (by rw [List.length_drop]; omega) (fun s h => hs s (List.mem_of_mem_drop h)) (by rw [List.length_append, List.length_singleton, List.length_drop]; omega)) ?_
    rw [List.drop_eq_nil_of_le (by omega)]
    simp [greedyB, greedyGo]
  | succ d ihd =>
    intro n ws out hr hs hl h1 hn
    have e : ws.drop n = ws[n] :: ws.drop (n + 1) := List.drop_eq_getElem_cons (by omega)
    have hz := hs ws[n] (List.getElem_mem (by omega))
    have ht : ws.take (n + 1) = ws.take n ++ [ws[n]] := List.take_succ_eq_append_getElem (by omega)
    have hj : joinB (ws.take (n + 1)) = joinB (ws.take n) ++ blankB ++ ws[n] := by
      rw [ht]
      obtain ⟨s, l, hsl⟩ : ∃ s l, ws.take n = s :: l := by
        cases hx : ws.take n with
        | nil => have := congrArg List.length hx; rw [List.length_take, List.length_nil] at this; omega
        | cons s l => exact ⟨s, l, rfl⟩
      rw [hsl]
      show joinGo s (l ++ [_]) = _
      rw [joinGo_append]; rfl
    refine Ev.succ ?_
    simp only [spec_l13Greedy.l1, if_pos (show ((n : Int) < (ws.length : Int)) by omega), w64 (show -9223372036854775808 ≤ (n : Int) + 1 by omega) (by omega), if_pos (show (0 : Int) ≤ (n : Int) + 1 by omega), if_pos (show (n : Int) + 1 ≤ (ws.length : Int) by omega), show ((n : Int) + 1).toNat = n + 1 by omega]
    refine Ev.bind (join_ev (ws.take (n + 1)) (by rw [List.length_take]; omega) (fun s h => by have := hs s (List.mem_of_mem_take h); omega)) ?_
    rw [e, greedyGo]
    have hsz : ((joinB (ws.take (n + 1))).size : Int) = (joinB (ws.take n)).size + 1 + ws[n].size := by
      rw [hj, ByteArray.size_append, ByteArray.size_append, blankB_size]; omega
    by_cases hf : ((joinB (ws.take n)).size : Int) + 1 + (ws[n].size : Int) ≤ w
    · simp only [hsz, if_pos hf]
      refine ev_eq (ihd (n + 1) ws out hr hs hl (by omega) (by omega)) ?_
      rw [hj]
    · simp only [hsz, if_neg hf, if_pos (show (0 : Int) ≤ (n : Int) by omega), if_pos (show (n : Int) ≤ (ws.length : Int) by omega), Int.toNat_natCast]
      refine Ev.bind (join_ev (ws.take n) (by rw [List.length_take]; omega) (fun s h => by have := hs s (List.mem_of_mem_take h); omega)) ?_
      simp only [if_pos (show out.length < 8796093022208 by omega)]
      refine ev_eq (ih (ws.drop n) _ (by rw [List.length_drop]; omega) (fun s h => hs s (List.mem_of_mem_drop h)) (by rw [List.length_append, List.length_singleton, List.length_drop]; omega)) ?_
      rw [e, List.append_assoc]; rfl
theorem spec_greedy_all (w : Int) (hw : w ≤ 80) (m : Nat) : ∀ (ws out : List ByteArray), ws.length < m → (∀ s ∈ ws, s.size ≤ 80) → out.length + ws.length ≤ 60 → Ev (fun k => spec_l13Greedy.l0 k ws w out) (out ++ greedyB w ws) := by
  induction m with
  | zero => intro ws out h; omega
  | succ m ih =>
    intro ws out h hs hl
    cases ws with
    | nil =>
      refine Ev.succ ?_
      simp only [spec_l13Greedy.l0, List.length_nil]
      refine ev_eq (Ev.now _) ?_
      simp [greedyB]
    | cons s l =>
      refine Ev.succ ?_
      simp only [spec_l13Greedy.l0, if_pos (show ((s :: l).length : Int) > 0 by rw [List.length_cons]; omega)]
      exact spec_greedy_in w hw (s :: l).length (fun m' out' h' => ih m' out' (by simp at h h'; omega)) l.length 1 (s :: l) out rfl hs hl (by omega) (by rw [List.length_cons]; omega)
theorem spec_greedy_ev (ws : List ByteArray) (w : Int) (hw : w ≤ 80) (hl : ws.length ≤ 60) (hs : ∀ s ∈ ws, s.size ≤ 80) : Ev (fun k => spec_l13Greedy.f k ws w) (greedyB w ws) := by
  unfold spec_l13Greedy.f
  exact ev_eq (spec_greedy_all w hw (ws.length + 1) ws [] (by omega) hs (by simpa using hl)) (by simp)
section
attribute [local go_sem] max2_int min2_int max_two min_two max_three min_three max_four min_four

end

inductive Br (W : Int) : List ByteArray → List ByteArray → Prop
  | nil : Br W [] []
  | cons {g r ls : List ByteArray} (hg : g ≠ []) (hf : ((joinB g).size : Int) ≤ W) (h : Br W r ls) : Br W (g ++ r) (joinB g :: ls)
def sumS (l : List ByteArray) : Nat := (l.map (fun s => s.size + 1)).sum
theorem joinB_sum (g : List ByteArray) (hg : g ≠ []) : (joinB g).size + 1 = sumS g := by
  cases g with
  | nil => exact absurd rfl hg
  | cons s l => rw [joinB, joinGo_size]; simp [sumS]; omega
theorem joinB_snoc (g : List ByteArray) (hg : g ≠ []) (x : ByteArray) : joinB (g ++ [x]) = joinB g ++ blankB ++ x := by
  cases g with
  | nil => exact absurd rfl hg
  | cons s l => show joinGo s (l ++ [x]) = _; rw [joinGo_append]; rfl
theorem Br.empty {W : Int} {ws ls : List ByteArray} (h : Br W ws ls) : ws = [] ↔ ls = [] := by
  cases h with
  | nil => simp
  | cons hg hf h => simp [hg]
theorem Br.length {W : Int} {ws ls : List ByteArray} (h : Br W ws ls) : ls.length ≤ ws.length := by
  induction h with
  | nil => exact Nat.le_refl 0
  | @cons g r ls hg hf h ih =>
    have : 1 ≤ g.length := List.length_pos_iff.2 hg
    rw [List.length_cons, List.length_append]; omega
theorem Br.sizes {W : Int} {ws ls : List ByteArray} (h : Br W ws ls) (hs : ∀ s ∈ ws, 1 ≤ s.size) : ∀ s ∈ ls, 1 ≤ s.size ∧ (s.size : Int) ≤ W := by
  induction h with
  | nil => intro s h; cases h
  | @cons g r ls hg hf h ih =>
    intro s hm
    rcases List.mem_cons.1 hm with rfl | hm
    · refine ⟨?_, hf⟩
      have h1 := joinB_sum g hg
      obtain ⟨x, l, rfl⟩ := List.exists_cons_of_ne_nil hg
      have h2 := hs x (by simp)
      simp only [sumS, List.map_cons, List.sum_cons] at h1
      omega
    · exact ih (fun x hx => hs x (List.mem_append_right _ hx)) s hm
theorem joinGo_pre (a b : ByteArray) (l : List ByteArray) : joinGo (a ++ b) l = a ++ joinGo b l := by
  induction l generalizing b with
  | nil => rfl
  | cons s l ih => rw [joinGo, joinGo, show a ++ b ++ blankB ++ s = a ++ (b ++ blankB ++ s) by rw [ByteArray.append_assoc, ByteArray.append_assoc, ByteArray.append_assoc], ih]
theorem Br.joinGo {W : Int} {ws ls : List ByteArray} (h : Br W ws ls) : ∀ acc, X.joinGo acc ls = X.joinGo acc ws := by
  induction h with
  | nil => intro acc; rfl
  | @cons g r ls hg hf h ih =>
    intro acc
    obtain ⟨x, l, rfl⟩ := List.exists_cons_of_ne_nil hg
    rw [X.joinGo, ih, List.cons_append, X.joinGo, joinGo_append]
    congr 1
    show acc ++ blankB ++ X.joinGo x l = _
    rw [joinGo_pre]
theorem Br.join {W : Int} {ws ls : List ByteArray} (h : Br W ws ls) : joinB ls = joinB ws := by
  cases h with
  | nil => rfl
  | @cons g r ls hg hf h =>
    obtain ⟨x, l, rfl⟩ := List.exists_cons_of_ne_nil hg
    show X.joinGo (X.joinGo x l) ls = X.joinGo x (l ++ r)
    rw [h.joinGo, joinGo_append]

theorem greedy_br (W : Int) (l : List ByteArray) : ∀ g : List ByteArray, g ≠ [] → ((joinB g).size : Int) ≤ W → (∀ s ∈ l, (s.size : Int) ≤ W) → Br W (g ++ l) (greedyGo W (joinB g) l) := by
  induction l with
  | nil =>
    intro g hg hf hs
    exact Br.cons hg hf Br.nil
  | cons x xs ih =>
    intro g hg hf hs
    rw [greedyGo]
    by_cases hc : ((joinB g).size : Int) + 1 + x.size ≤ W
    · rw [if_pos hc, ← joinB_snoc g hg x]
      have := ih (g ++ [x]) (by simp) (by rw [joinB_snoc g hg x, ByteArray.size_append, ByteArray.size_append, blankB_size]; omega) (fun s h => hs s (List.mem_cons_of_mem _ h))
      rwa [List.append_assoc] at this
    · rw [if_neg hc]
      have hx := hs x (List.mem_cons_self ..)
      exact Br.cons hg hf (ih [x] (by simp) hx (fun s h => hs s (List.mem_cons_of_mem _ h)))
theorem greedyB_br (W : Int) (ws : List ByteArray) (hs : ∀ s ∈ ws, (s.size : Int) ≤ W) : Br W ws (greedyB W ws) := by
  cases ws with
  | nil => exact Br.nil
  | cons s l => exact greedy_br W l [s] (by simp) (hs s (List.mem_cons_self ..)) (fun x h => hs x (List.mem_cons_of_mem _ h))
section
attribute [local go_sem] max2_int min2_int max_two min_two max_three min_three max_four min_four

end

theorem sameTexts_loop (a : List ByteArray) (hm : a.length ≤ 1048576) (d : Nat) : ∀ i : Nat, i + d = a.length → Ev (fun k => laws_sameTexts.l0 k a a (a.length : Int) (i : Int)) true := by
  induction d with
  | zero =>
    intro i h
    refine Ev.succ ?_
    simp only [laws_sameTexts.l0, if_neg (show ¬ ((i : Int) < (a.length : Int)) by omega)]
    exact Ev.now _
  | succ d ih =>
    intro i h
    refine Ev.succ ?_
    simp only [laws_sameTexts.l0, if_pos (show ((i : Int) < (a.length : Int)) by omega), if_pos (show (0 : Int) ≤ i by omega), if_true, w64 (show -9223372036854775808 ≤ (i : Int) + 1 by omega) (by omega)]
    exact ih (i + 1) (by omega)
theorem sameTexts_ev (a : List ByteArray) (hm : a.length ≤ 1048576) : Ev (fun k => laws_sameTexts.f k a a) true := by
  unfold laws_sameTexts.f
  simp only [if_true]
  exact sameTexts_loop a hm a.length 0 (by omega)
section
attribute [local go_sem] max2_int min2_int max_two min_two max_three min_three max_four min_four

end
theorem bits255 (x : Int) : 0 ≤ wrap64 (Go.bits .and .u64 x 255) ∧ wrap64 (Go.bits .and .u64 x 255) ≤ 255 := by
  have h : ((BitVec.ofInt 64 x &&& BitVec.ofInt 64 255).toNat) ≤ 255 := by
    rw [BitVec.toNat_and]
    exact Nat.le_trans Nat.and_le_right (by decide)
  have e : Go.bits .and .u64 x 255 = (((BitVec.ofInt 64 x &&& BitVec.ofInt 64 255).toNat : Nat) : Int) := by
    unfold Go.bits
    show IntKind.u64.wrap (((BitVec.ofInt 64 x &&& BitVec.ofInt 64 255).toNat : Nat) : Int) = _
    generalize (BitVec.ofInt 64 x &&& BitVec.ofInt 64 255).toNat = n at h
    have hw : ∀ m : Nat, m ≤ 255 → IntKind.u64.wrap (m : Int) = (m : Int) := by
      intro m hm
      simp [IntKind.wrap, IntKind.bits, IntKind.signed]
      omega
    exact hw n h
  rw [e, w64 (by omega) (by omega)]
  omega
def okCode (code : List Int) : Prop := ∀ y ∈ code, 0 ≤ y ∧ y ≤ 255
theorem okCode_of {code : List Int} (h2 : ∀ y ∈ code, (Lit.int .u8 y).wf = true) : okCode code := fun y hy => by
  have := h2 y hy
  simp [Lit.wf, IntKind.min, IntKind.max, IntKind.bits, IntKind.signed] at this
  omega
theorem next_ok (code : List Int) (a s : Int) (hc : okCode code) (h0 : 0 ≤ a) (h1 : a ≤ 1000000000000) : ∃ r s', spec_l1Cur_next.f code a s = some (r, a + 1, s') ∧ 0 ≤ r ∧ r ≤ 255 := by
  have hw : wrap64 (a + 1) = a + 1 := w64 (by omega) (by omega)
  unfold spec_l1Cur_next.f
  rw [hw]
  by_cases hl : a < (code.length : Int)
  · have hrd : 0 ≤ rd code a ∧ rd code a ≤ 255 := by
      have hn : a.toNat < code.length := by omega
      have : rd code a = code[a.toNat] := by simp [rd, List.getD_eq_getElem?_getD, hn]
      rw [this]
      exact hc _ (List.getElem_mem hn)
    rw [if_pos hl, if_pos h0, if_pos (by omega)]
    exact ⟨_, _, rfl, by rw [w64 (by omega) (by omega)]; omega, by rw [w64 (by omega) (by omega)]; omega⟩
  · rw [if_neg hl, if_neg (by omega)]
    exact ⟨_, _, rfl, (bits255 _).1, (bits255 _).2⟩
theorem pick_ok (code : List Int) (a s n : Int) (hc : okCode code) (h0 : 0 ≤ a) (h1 : a ≤ 1000000000) (hn : n ≤ 1000000) : ∃ r a' s', spec_l1Cur_pick.f code a s n = some (r, a', s') ∧ 0 ≤ r ∧ (1 ≤ n → r < n) ∧ a ≤ a' ∧ a' ≤ a + 2 := by
  unfold spec_l1Cur_pick.f
  by_cases h : n ≤ 1
  · rw [if_pos h]; exact ⟨0, a, s, rfl, Int.le_refl 0, by omega, by omega, by omega⟩
  · rw [if_neg h]
    obtain ⟨r, s1, e1, hr0, hr1⟩ := next_ok code a s hc h0 (by omega)
    rw [e1, Option.bind_some]
    by_cases h2 : n > 200
    · rw [if_pos h2]
      simp only
      obtain ⟨r2, s2, e2, hq0, hq1⟩ := next_ok code (a + 1) s1 hc (by omega) (by omega)
      rw [e2, Option.bind_some, if_neg (by omega)]
      have hb : wrap64 (wrap64 (r * 256) + r2) = r * 256 + r2 := by rw [w64 (n := r * 256) (by omega) (by omega), w64 (by omega) (by omega)]
      exact ⟨_, _, _, rfl, by rw [hb]; exact Int.tmod_nonneg _ (by omega), fun _ => by rw [hb]; exact Int.tmod_lt_of_pos _ (by omega), by simp only; omega, by simp only; omega⟩
    · rw [if_neg h2, if_neg (by omega)]
      exact ⟨_, _, _, rfl, Int.tmod_nonneg _ hr0, fun _ => Int.tmod_lt_of_pos _ (by omega), by simp only; omega, by simp only; omega⟩
theorem one_ok (code : List Int) (a s n : Int) (hc : okCode code) (h0 : 0 ≤ a) (h1 : a ≤ 1000000000) (hn : n ≤ 1000000) : ∃ b a' s', spec_l1Cur_one.f code a s n = some (b, a', s') ∧ a ≤ a' ∧ a' ≤ a + 2 := by
  obtain ⟨r, a', s', e, _, _, h2, h3⟩ := pick_ok code a s n hc h0 h1 hn
  unfold spec_l1Cur_one.f
  rw [e, Option.bind_some]
  exact ⟨_, _, _, rfl, h2, h3⟩
theorem of_ok (code : List Int) (a s : Int) (l : List ByteArray) (hc : okCode code) (h0 : 0 ≤ a) (h1 : a ≤ 1000000000) (hl : 1 ≤ l.length) (hl2 : l.length ≤ 1000) : ∃ x a' s', spec_l1Cur_of.f code a s l = some (x, a', s') ∧ x ∈ l ∧ a ≤ a' ∧ a' ≤ a + 2 := by
  obtain ⟨r, a', s', e, h2, h3, h4, h5⟩ := pick_ok code a s (l.length : Int) hc h0 h1 (by omega)
  have h6 := h3 (by omega)
  have hi : r.toNat < l.length := by omega
  unfold spec_l1Cur_of.f
  rw [e, Option.bind_some]
  simp only [if_pos h2, if_pos h6]
  exact ⟨_, _, _, rfl, by rw [show r = ((r.toNat : Nat) : Int) by omega, rdOf_get _ l r.toNat hi]; exact List.getElem_mem _, h4, h5⟩
section
attribute [local go_sem] max2_int min2_int max_two min_two max_three min_three max_four min_four

end
section
attribute [local go_sem] max2_int min2_int max_two min_two max_three min_three max_four min_four

end
section
attribute [local go_sem] max2_int min2_int max_two min_two max_three min_three max_four min_four

end
section
attribute [local go_sem] max2_int min2_int max_two min_two max_three min_three max_four min_four

end
def okWords (ws : List ByteArray) : Prop := ws.length ≤ 61 ∧ ∀ s ∈ ws, s.size ≤ 9
theorem words_loop (code : List Int) (hc : okCode code) (n : Nat) : ∀ (acc : List ByteArray) (a s : Int), n + acc.length ≤ 61 → (∀ x ∈ acc, x.size ≤ 9) → 0 ≤ a → a + 2 * n ≤ 900000000 →
    ∃ ws a' s', Ev (fun k => spec_l1Cur_words.l0 k acc (n : Int) code a s) (ws, a', s') ∧ okWords ws ∧ a ≤ a' ∧ a' ≤ a + 2 * n + 4 := by
  induction n with
  | zero =>
    intro acc a s hn hs h0 h1
    by_cases hl : (acc.length : Int) > 0
    · obtain ⟨b, a1, s1, e1, h2, h3⟩ := one_ok code a s 30 hc h0 (by omega) (by omega)
      cases b with
      | false =>
        refine ⟨acc, a1, s1, ?_, ⟨by omega, hs⟩, h2, by omega⟩
        refine Ev.succ ?_
        simp only [spec_l1Cur_words.l0, if_neg (show ¬ ((0 : Nat) : Int) > 0 by omega), if_pos hl, e1, Option.bind_some, Bool.false_eq_true, if_false]
        exact Ev.now _
      | true =>
        obtain ⟨x, a2, s2, e2, hx, h4, h5⟩ := of_ok code a1 s1 [(⟨#[]⟩ : ByteArray), (⟨#[97, 32, 98]⟩ : ByteArray), (⟨#[65]⟩ : ByteArray)] hc (by omega) (by omega) (by simp) (by simp)
        have hxs : x.size ≤ 9 := by
          simp only [List.mem_cons, List.not_mem_nil, or_false] at hx
          rcases hx with rfl | rfl | rfl <;> decide
        refine ⟨acc.set (0 : Int).toNat x, a2, s2, ?_, ⟨by rw [List.length_set]; omega, fun y hy => ?_⟩, by omega, by omega⟩
        · refine Ev.succ ?_
          simp only [spec_l1Cur_words.l0, if_neg (show ¬ ((0 : Nat) : Int) > 0 by omega), if_pos hl, e1, Option.bind_some, if_true, e2, if_pos (show 0 < (acc.length : Int) from hl)]
          exact Ev.now _
        · rcases List.mem_or_eq_of_mem_set hy with h | h
          · exact hs y h
          · rw [h]; exact hxs
    · refine ⟨acc, a, s, ?_, ⟨by omega, hs⟩, Int.le_refl _, by omega⟩
      refine Ev.succ ?_
      simp only [spec_l1Cur_words.l0, if_neg (show ¬ ((0 : Nat) : Int) > 0 by omega), if_neg hl]
      exact Ev.now _
  | succ n ih =>
    intro acc a s hn hs h0 h1
    obtain ⟨x, a1, s1, e1, hx, h2, h3⟩ := of_ok code a s [(⟨#[97]⟩ : ByteArray), (⟨#[116, 111]⟩ : ByteArray), (⟨#[116, 104, 101]⟩ : ByteArray), (⟨#[119, 111, 114, 100]⟩ : ByteArray), (⟨#[108, 105, 110, 101, 115]⟩ : ByteArray), (⟨#[98, 114, 111, 107, 101, 110]⟩ : ByteArray), (⟨#[112, 97, 114, 97, 103, 114, 97, 112, 104]⟩ : ByteArray)] hc h0 (by omega) (by simp) (by simp)
    have hxs : x.size ≤ 9 := by
      simp only [List.mem_cons, List.not_mem_nil, or_false] at hx
      rcases hx with rfl | rfl | rfl | rfl | rfl | rfl | rfl <;> decide
    obtain ⟨ws, a', s', he, ho, h4, h5⟩ := ih (acc ++ [x]) a1 s1 (by rw [List.length_append, List.length_singleton]; omega) (fun y hy => by
      rcases List.mem_append.1 hy with h | h
      · exact hs y h
      · rw [List.mem_singleton.1 h]; exact hxs) (by omega) (by omega)
    refine ⟨ws, a', s', ?_, ho, by omega, by omega⟩
    refine Ev.succ ?_
    simp only [spec_l1Cur_words.l0, if_pos (show ((n + 1 : Nat) : Int) > 0 by omega), e1, Option.bind_some, if_pos (show acc.length < 8796093022208 by omega), w64 (show -9223372036854775808 ≤ ((n + 1 : Nat) : Int) - 1 by omega) (by omega)]
    rw [show ((n + 1 : Nat) : Int) - 1 = (n : Int) by omega]
    exact he
theorem words_ok (code : List Int) (a s : Int) (hc : okCode code) (h0 : 0 ≤ a) (h1 : a ≤ 800000000) : ∃ ws a' s', Ev (fun k => spec_l1Cur_words.f k code a s) (ws, a', s') ∧ okWords ws ∧ a ≤ a' ∧ a' ≤ a + 200 := by
  obtain ⟨r, a1, s1, e1, hr0, hr1, h2, h3⟩ := pick_ok code a s 12 hc h0 (by omega) (by omega)
  have hr2 := hr1 (by omega)
  obtain ⟨b, a2, s2, e2, h4, h5⟩ := one_ok code a1 s1 30 hc (by omega) (by omega) (by omega)
  cases b with
  | false =>
    obtain ⟨ws, a', s', he, ho, h6, h7⟩ := words_loop code hc r.toNat [] a2 s2 (by simp; omega) (by simp) (by omega) (by omega)
    refine ⟨ws, a', s', ?_, ho, by omega, by omega⟩
    unfold spec_l1Cur_words.f
    simp only [e1, e2, Option.bind_some, Bool.false_eq_true, if_false]
    refine Ev.succ ?_
    simp only [spec_l1Cur_words.j0]
    rw [show r = ((r.toNat : Nat) : Int) by omega]
    exact he
  | true =>
    obtain ⟨r2, a3, s3, e3, hq0, hq1, h8, h9⟩ := pick_ok code a2 s2 2 hc (by omega) (by omega) (by omega)
    have hq2 := hq1 (by omega)
    obtain ⟨ws, a', s', he, ho, h6, h7⟩ := words_loop code hc (60 + r2).toNat [] a3 s3 (by simp; omega) (by simp) (by omega) (by omega)
    refine ⟨ws, a', s', ?_, ho, by omega, by omega⟩
    unfold spec_l1Cur_words.f
    simp only [e1, e2, e3, Option.bind_some, if_true]
    refine Ev.succ ?_
    simp only [spec_l1Cur_words.j0]
    rw [w64 (by omega) (by omega), show 60 + r2 = (((60 + r2).toNat : Nat) : Int) by omega]
    exact he
theorem drawLeast_ok (code : List Int) (hc : okCode code) : ∃ ws n, Ev (fun k => spec_DrawLeastWidth.f k code) (ws, n) ∧ okWords ws := by
  obtain ⟨ws, a1, s1, he, ho, h2, h3⟩ := words_ok code 0 0 hc (by omega) (by omega)
  obtain ⟨r, a2, s2, e2, _, _, h4, h5⟩ := pick_ok code a1 s1 9 hc (by omega) (by omega) (by omega)
  refine ⟨ws, r, ?_, ho⟩
  unfold spec_DrawLeastWidth.f
  refine Ev.bind he ?_
  simp only [e2, Option.bind_some]
  exact Ev.now _
theorem nums_size (l : List Int) : (strOfNums l).size = l.length := by simp [strOfNums, ByteArray.size]
def partS : Nat → Nat
  | 0 => 3
  | d + 1 => 3 * partS d + 3
def partG : Nat → Nat
  | 0 => 4
  | d + 1 => 3 * partG d + 8
theorem part_pos (d : Nat) : 3 ≤ partS d ∧ 4 ≤ partG d := by
  cases d with
  | zero => decide
  | succ d => simp only [partS, partG]; omega
def innerOk (code : List Int) (d : Nat) : Prop := ∀ (n : Nat) (a s : Int), n ≤ 60 → 0 ≤ a → a ≤ 80000000 + 1000000 * (3 - (d : Int)) →
  ∃ t a' s', Ev (fun k => spec_l1Cur_inner.f k code a s (n : Int) (d : Int)) (t, a', s') ∧ t.size ≤ n * partS d ∧ a ≤ a' ∧ a' ≤ a + n * partG d
theorem inner_loop (code : List Int) (hc : okCode code) (d : Nat) (hd : d ≤ 3) (ih : ∀ e, d = e + 1 → innerOk code e) (n : Nat) : ∀ (acc : ByteArray) (a s : Int), n ≤ 60 → acc.size + n * partS d ≤ 1000000 → 0 ≤ a → a + n * partG d ≤ 80000000 + 1000000 * (3 - (d : Int)) + 60 * (partG d : Int) →
    ∃ t a' s', Ev (fun k => spec_l1Cur_inner.l0 k (n : Int) (d : Int) acc code a s) (t, a', s') ∧ t.size ≤ acc.size + n * partS d ∧ a ≤ a' ∧ a' ≤ a + n * partG d := by
  induction n with
  | zero =>
    intro acc a s hn hs h0 h1
    refine ⟨acc, a, s, Ev.succ ?_, by omega, Int.le_refl _, by omega⟩
    simp only [spec_l1Cur_inner.l0, if_neg (show ¬ ((0 : Nat) : Int) > 0 by omega)]
    exact Ev.now _
  | succ n ihn =>
    intro acc a s hn hs h0 h1
    obtain ⟨hp1, hp2⟩ := part_pos d
    have hpd : partS d ≤ 120 ∧ partG d ≤ 212 := by
      have : d = 0 ∨ d = 1 ∨ d = 2 ∨ d = 3 := by omega
      rcases this with rfl | rfl | rfl | rfl <;> decide
    have hng : ((n + 1 : Nat) : Int) * (partG d : Int) = (n : Int) * (partG d : Int) + (partG d : Int) := by rw [show ((n + 1 : Nat) : Int) = (n : Int) + 1 by omega, Int.add_mul, Int.one_mul]
    have hng0 : 0 ≤ (n : Int) * (partG d : Int) := Int.mul_nonneg (by omega) (by omega)
    have hns : (n + 1) * partS d = n * partS d + partS d := Nat.succ_mul _ _
    have hw1 : wrap64 (((n + 1 : Nat) : Int) - 1) = (n : Int) := by rw [w64 (by omega) (by omega)]; omega
    -- a text
    have htext : ∀ (a1 s1 : Int), 0 ≤ a1 → a ≤ a1 → a1 ≤ a + 2 → ∃ t a' s', Ev (fun k => spec_l1Cur_inner.j1 k ((n + 1 : Nat) : Int) (d : Int) acc false code a1 s1) (t, a', s') ∧ t.size ≤ acc.size + (n + 1) * partS d ∧ a ≤ a' ∧ a' ≤ a + ((n + 1 : Nat) : Int) * partG d := by
      intro a1 s1 g0 g1 g2
      obtain ⟨x, a2, s2, e2, hx, h4, h5⟩ := of_ok code a1 s1 [(⟨#[97]⟩ : ByteArray), (⟨#[98]⟩ : ByteArray), (⟨#[97, 98]⟩ : ByteArray), (⟨#[120]⟩ : ByteArray), (⟨#[32]⟩ : ByteArray), (⟨#[111, 110, 101]⟩ : ByteArray), (⟨#[49]⟩ : ByteArray), (⟨#[122, 46]⟩ : ByteArray)] hc g0 (by omega) (by simp) (by simp)
      have hxs : x.size ≤ 3 := by
        simp only [List.mem_cons, List.not_mem_nil, or_false] at hx
        rcases hx with rfl | rfl | rfl | rfl | rfl | rfl | rfl | rfl <;> decide
      obtain ⟨t, a', s', he, ht, h6, h7⟩ := ihn (acc ++ x) a2 s2 (by omega) (by rw [ByteArray.size_append]; omega) (by omega) (by omega)
      rw [ByteArray.size_append] at ht
      refine ⟨t, a', s', Ev.succ ?_, by omega, by omega, by omega⟩
      simp only [spec_l1Cur_inner.j1, Bool.false_eq_true, if_false, e2, Option.bind_some, if_pos (show acc.size + x.size ≤ 9223372036854775807 by omega), hw1]
      exact he
    by_cases hd0 : d = 0
    · subst hd0
      obtain ⟨t, a', s', he, ht, h6, h7⟩ := htext a s h0 (Int.le_refl _) (by omega)
      refine ⟨t, a', s', Ev.succ ?_, ht, h6, h7⟩
      simp only [spec_l1Cur_inner.l0, if_pos (show ((n + 1 : Nat) : Int) > 0 by omega), if_neg (show ¬ ((0 : Nat) : Int) > 0 by omega)]
      exact he
    · obtain ⟨e, rfl⟩ : ∃ e, d = e + 1 := ⟨d - 1, by omega⟩
      have hie := ih e rfl
      obtain ⟨b, a1, s1, e1, g1, g2⟩ := one_ok code a s 3 hc h0 (by omega) (by omega)
      cases b with
      | false =>
        obtain ⟨t, a', s', he, ht, h6, h7⟩ := htext a1 s1 (by omega) g1 g2
        refine ⟨t, a', s', Ev.succ ?_, ht, h6, h7⟩
        simp only [spec_l1Cur_inner.l0, if_pos (show ((n + 1 : Nat) : Int) > 0 by omega), if_pos (show ((e + 1 : Nat) : Int) > 0 by omega), e1, Option.bind_some]
        exact he
      | true =>
        obtain ⟨r1, a2, s2, e2, _, _, g3, g4⟩ := pick_ok code a1 s1 4 hc (by omega) (by omega) (by omega)
        obtain ⟨r2, a3, s3, e3, hr0, hr1, g5, g6⟩ := pick_ok code a2 s2 4 hc (by omega) (by omega) (by omega)
        have hr2 := hr1 (by omega)
        obtain ⟨q, hq⟩ : ∃ q : Nat, r2 = (q : Int) := ⟨r2.toNat, by omega⟩
        subst hq
        have hq3 : q ≤ 3 := by omega
        have hpe := part_pos e
        have hGd : partG (e + 1) = 3 * partG e + 8 := rfl
        have hSd : partS (e + 1) = 3 * partS e + 3 := rfl
        obtain ⟨t1, a4, s4, he1, ht1, g7, g8⟩ := hie q a3 s3 (by omega) (by omega) (by omega)
        have hqS : q * partS e ≤ 3 * partS e := Nat.mul_le_mul_right _ hq3
        have hqG : (q : Int) * (partG e : Int) ≤ 3 * (partG e : Int) := Int.mul_le_mul_of_nonneg_right (by omega) (by omega)
        obtain ⟨y, hy⟩ : ∃ y, y = strOfNums [(wrap64 (65 + r1)) % 256] := ⟨_, rfl⟩
        have hys : y.size = 1 := by rw [hy, nums_size]; rfl
        have hsz : (y ++ t1 ++ (⟨#[47]⟩ : ByteArray)).size = 1 + t1.size + 1 := by rw [ByteArray.size_append, ByteArray.size_append, hys]; rfl
        obtain ⟨t, a', s', he, ht, h6, h7⟩ := ihn (acc ++ (y ++ t1 ++ (⟨#[47]⟩ : ByteArray))) a4 s4 (by omega) (by rw [ByteArray.size_append, hsz]; omega) (by omega) (by omega)
        rw [ByteArray.size_append, hsz] at ht
        refine ⟨t, a', s', Ev.succ ?_, by omega, by omega, by omega⟩
        simp only [spec_l1Cur_inner.l0, if_pos (show ((n + 1 : Nat) : Int) > 0 by omega), if_pos (show ((e + 1 : Nat) : Int) > 0 by omega), e1, Option.bind_some]
        refine Ev.succ ?_
        simp only [spec_l1Cur_inner.j1, if_true, e2, e3, Option.bind_some, ← hy, w64 (show -9223372036854775808 ≤ ((e + 1 : Nat) : Int) - 1 by omega) (by omega), hw1]
        rw [show ((e + 1 : Nat) : Int) - 1 = (e : Int) by omega]
        refine Ev.bind he1 ?_
        simp only [if_pos (show y.size + t1.size ≤ 9223372036854775807 by omega), if_pos (show (y ++ t1).size + 1 ≤ 9223372036854775807 by rw [ByteArray.size_append]; omega), if_pos (show acc.size + (y ++ t1 ++ (⟨#[47]⟩ : ByteArray)).size ≤ 9223372036854775807 by rw [hsz]; omega)]
        exact he
theorem inner_ok (code : List Int) (hc : okCode code) (d : Nat) : d ≤ 3 → innerOk code d := by
  induction d with
  | zero =>
    intro hd n a s hn h0 h1
    have hpd : partS 0 = 3 ∧ partG 0 = 4 := by decide
    obtain ⟨t, a', s', he, ht, h6, h7⟩ := inner_loop code hc 0 hd (fun e h => absurd h (by omega)) n ⟨#[]⟩ a s hn (by show 0 + _ ≤ _; rw [hpd.1]; omega) h0 (by rw [hpd.2]; omega)
    refine ⟨t, a', s', Ev.succ he, ?_, h6, h7⟩
    have : (⟨#[]⟩ : ByteArray).size = 0 := rfl
    omega
  | succ d ih =>
    intro hd n a s hn h0 h1
    have hpd : partS (d + 1) ≤ 120 ∧ partG (d + 1) ≤ 212 := by
      have : d = 0 ∨ d = 1 ∨ d = 2 := by omega
      rcases this with rfl | rfl | rfl <;> decide
    have hm : n * partS (d + 1) ≤ 60 * 120 := Nat.mul_le_mul hn hpd.1
    have hg : (n : Int) * (partG (d + 1) : Int) ≤ 60 * (partG (d + 1) : Int) := Int.mul_le_mul_of_nonneg_right (by omega) (by omega)
    have hie : ∀ e, d + 1 = e + 1 → innerOk code e := by
      intro e h
      obtain rfl : d = e := by omega
      exact ih (by omega)
    obtain ⟨t, a', s', he, ht, h6, h7⟩ := inner_loop code hc (d + 1) hd hie n ⟨#[]⟩ a s hn (by show 0 + _ ≤ _; omega) h0 (by omega)
    refine ⟨t, a', s', Ev.succ he, ?_, h6, h7⟩
    have : (⟨#[]⟩ : ByteArray).size = 0 := rfl
    omega
theorem innerTop_ok (code : List Int) (hc : okCode code) (n : Nat) (a s : Int) (hn : n ≤ 60) (h0 : 0 ≤ a) (h1 : a ≤ 80000000) : ∃ t a' s', Ev (fun k => spec_l1Cur_inner.f k code a s (n : Int) 3) (t, a', s') ∧ t.size ≤ 7200 ∧ a ≤ a' ∧ a' ≤ a + 12720 := by
  obtain ⟨t, a', s', he, ht, h6, h7⟩ := inner_ok code hc 3 (Nat.le_refl _) n a s hn h0 (by omega)
  have hm : n * partS 3 ≤ 60 * 120 := Nat.mul_le_mul hn (by decide)
  have hg : (n : Int) * (partG 3 : Int) ≤ 60 * 212 := Int.mul_le_mul (by omega) (by decide) (by omega) (by omega)
  exact ⟨t, a', s', he, by omega, h6, by omega⟩
theorem spoilt_loop (code : List Int) (hc : okCode code) (wi : ByteArray) (hw : 1 ≤ wi.size ∧ wi.size ≤ 100) (n : Nat) : ∀ (t : ByteArray) (a s : Int), n ≤ 3 → t.size + n ≤ 10000 → 0 ≤ a → a + 6 * n ≤ 90000000 →
    ∃ t' a' s', Ev (fun k => spec_l1Cur_spoilt.l0 k t wi (n : Int) code a s) (t', a', s') ∧ t'.size ≤ t.size + n ∧ a ≤ a' ∧ a' ≤ a + 6 * n := by
  induction n with
  | zero =>
    intro t a s hn ht h0 h1
    refine ⟨t, a, s, Ev.succ ?_, by omega, Int.le_refl _, by omega⟩
    simp only [spec_l1Cur_spoilt.l0, if_neg (show ¬ ((0 : Nat) : Int) > 0 by omega)]
    refine Ev.succ ?_
    simp only [spec_l1Cur_spoilt.j1, Bool.false_eq_true, if_false]
    exact Ev.now _
  | succ n ihn =>
    intro t a s hn ht h0 h1
    by_cases hts : (t.size : Int) > 0
    · obtain ⟨r1, a1, s1, e1, hr10, hr11, g1, g2⟩ := pick_ok code a s (t.size : Int) hc h0 (by omega) (by omega)
      obtain ⟨r2, a2, s2, e2, hr20, hr21, g3, g4⟩ := pick_ok code a1 s1 (wi.size : Int) hc (by omega) (by omega) (by omega)
      obtain ⟨r3, a3, s3, e3, hr30, hr31, g5, g6⟩ := pick_ok code a2 s2 3 hc (by omega) (by omega) (by omega)
      have hr12 := hr11 (by omega)
      have hr22 := hr21 (by omega)
      obtain ⟨y, hy⟩ : ∃ y, y = strOfNums [bt wi r2] := ⟨_, rfl⟩
      have hys : y.size = 1 := by rw [hy, nums_size]; rfl
      have hw1 : wrap64 (((n + 1 : Nat) : Int) - 1) = (n : Int) := by rw [w64 (by omega) (by omega)]; omega
      have hw2 : wrap64 (r1 + 1) = r1 + 1 := w64 (by omega) (by omega)
      have x1 : (t.extract 0 r1.toNat).size = r1.toNat := by rw [ByteArray.size_extract]; omega
      have x2 : (t.extract r1.toNat t.size).size = t.size - r1.toNat := by rw [ByteArray.size_extract]; omega
      have x3 : (t.extract (r1 + 1).toNat t.size).size = t.size - (r1 + 1).toNat := by rw [ByteArray.size_extract]; omega
      have hgo : ∀ t2 : ByteArray, t2.size ≤ t.size + 1 → ∃ t' a' s', Ev (fun k => spec_l1Cur_spoilt.l0 k t2 wi (n : Int) code a3 s3) (t', a', s') ∧ t'.size ≤ t.size + (n + 1) ∧ a ≤ a' ∧ a' ≤ a + 6 * ((n + 1 : Nat) : Int) := by
        intro t2 h2
        obtain ⟨t', a', s', he, ht', h6, h7⟩ := ihn t2 a3 s3 (by omega) (by omega) (by omega) (by omega)
        exact ⟨t', a', s', he, by omega, by omega, by omega⟩
      by_cases c0 : r3 = 0
      · obtain ⟨t', a', s', he, q⟩ := hgo ((t.extract 0 r1.toNat ++ y) ++ t.extract r1.toNat t.size) (by rw [ByteArray.size_append, ByteArray.size_append]; omega)
        refine ⟨t', a', s', Ev.succ ?_, q⟩
        simp only [spec_l1Cur_spoilt.l0, if_pos (show ((n + 1 : Nat) : Int) > 0 by omega), decide_eq_true hts]
        refine Ev.succ ?_
        simp only [spec_l1Cur_spoilt.j1, if_true, e1, e2, e3, Option.bind_some, if_pos hr20, if_pos hr22, ← hy, if_pos c0, if_pos hr10, if_pos (show r1 ≤ (t.size : Int) by omega), hw1,
          if_pos (show (t.extract 0 r1.toNat).size + y.size ≤ 9223372036854775807 by omega), if_pos (show (t.extract 0 r1.toNat ++ y).size + (t.extract r1.toNat t.size).size ≤ 9223372036854775807 by rw [ByteArray.size_append]; omega)]
        exact he
      · by_cases c1 : r3 = 1
        · obtain ⟨t', a', s', he, q⟩ := hgo ((t.extract 0 r1.toNat ++ y) ++ t.extract (r1 + 1).toNat t.size) (by rw [ByteArray.size_append, ByteArray.size_append]; omega)
          refine ⟨t', a', s', Ev.succ ?_, q⟩
          simp only [spec_l1Cur_spoilt.l0, if_pos (show ((n + 1 : Nat) : Int) > 0 by omega), decide_eq_true hts]
          refine Ev.succ ?_
          simp only [spec_l1Cur_spoilt.j1, if_true, e1, e2, e3, Option.bind_some, if_pos hr20, if_pos hr22, ← hy, if_neg c0, if_pos c1, if_pos hr10, if_pos (show r1 ≤ (t.size : Int) by omega), hw1, hw2, if_pos (show (0 : Int) ≤ r1 + 1 by omega), if_pos (show r1 + 1 ≤ (t.size : Int) by omega),
            if_pos (show (t.extract 0 r1.toNat).size + y.size ≤ 9223372036854775807 by omega), if_pos (show (t.extract 0 r1.toNat ++ y).size + (t.extract (r1 + 1).toNat t.size).size ≤ 9223372036854775807 by rw [ByteArray.size_append]; omega)]
          exact he
        · obtain ⟨t', a', s', he, q⟩ := hgo (t.extract 0 r1.toNat ++ t.extract (r1 + 1).toNat t.size) (by rw [ByteArray.size_append]; omega)
          refine ⟨t', a', s', Ev.succ ?_, q⟩
          simp only [spec_l1Cur_spoilt.l0, if_pos (show ((n + 1 : Nat) : Int) > 0 by omega), decide_eq_true hts]
          refine Ev.succ ?_
          simp only [spec_l1Cur_spoilt.j1, if_true, e1, e2, e3, Option.bind_some, if_pos hr20, if_pos hr22, ← hy, if_neg c0, if_neg c1, if_pos hr10, if_pos (show r1 ≤ (t.size : Int) by omega), hw1, hw2, if_pos (show (0 : Int) ≤ r1 + 1 by omega), if_pos (show r1 + 1 ≤ (t.size : Int) by omega),
            if_pos (show (t.extract 0 r1.toNat).size + (t.extract (r1 + 1).toNat t.size).size ≤ 9223372036854775807 by omega)]
          exact he
    · refine ⟨t, a, s, Ev.succ ?_, by omega, Int.le_refl _, by omega⟩
      simp only [spec_l1Cur_spoilt.l0, if_pos (show ((n + 1 : Nat) : Int) > 0 by omega), decide_eq_false hts]
      refine Ev.succ ?_
      simp only [spec_l1Cur_spoilt.j1, Bool.false_eq_true, if_false]
      exact Ev.now _
theorem spoilt_ok (code : List Int) (hc : okCode code) (wi t : ByteArray) (hw : 1 ≤ wi.size ∧ wi.size ≤ 100) (a s : Int) (ht : t.size ≤ 9000) (h0 : 0 ≤ a) (h1 : a ≤ 89000000) :
    ∃ t' a' s', Ev (fun k => spec_l1Cur_spoilt.f k code a s t wi) (t', a', s') ∧ t'.size ≤ t.size + 3 ∧ a ≤ a' ∧ a' ≤ a + 30 := by
  obtain ⟨r, a1, s1, e1, hr0, hr1, g1, g2⟩ := pick_ok code a s 3 hc h0 (by omega) (by omega)
  have hr2 := hr1 (by omega)
  obtain ⟨q, hq⟩ : ∃ q : Nat, r = (q : Int) := ⟨r.toNat, by omega⟩
  subst hq
  obtain ⟨t', a', s', he, ht', h6, h7⟩ := spoilt_loop code hc wi hw q t a1 s1 (by omega) (by omega) (by omega) (by omega)
  refine ⟨t', a', s', ?_, by omega, by omega, by omega⟩
  unfold spec_l1Cur_spoilt.f
  simp only [e1, Option.bind_some]
  exact he
theorem doc_ok (code : List Int) (hc : okCode code) (a s : Int) (h0 : 0 ≤ a) (h1 : a ≤ 70000000) : ∃ t a' s', Ev (fun k => spec_l1Cur_doc.f k code a s) (t, a', s') ∧ t.size ≤ 7203 ∧ a ≤ a' ∧ a' ≤ a + 30000 := by
  have hj : ∀ (t : ByteArray) (b z : Int), t.size ≤ 7200 → 0 ≤ b → b ≤ 80000000 → ∃ t' a' s', Ev (fun k => spec_l1Cur_doc.j0 k t code b z) (t', a', s') ∧ t'.size ≤ 7203 ∧ b ≤ a' ∧ a' ≤ b + 40 := by
    intro t b z ht hb0 hb1
    obtain ⟨o, b1, z1, e1, g1, g2⟩ := one_ok code b z 12 hc hb0 (by omega) (by omega)
    cases o with
    | false =>
      refine ⟨t, b1, z1, Ev.succ ?_, by omega, g1, by omega⟩
      simp only [spec_l1Cur_doc.j0, e1, Option.bind_some, Bool.false_eq_true, if_false]
      exact Ev.now _
    | true =>
      obtain ⟨t', b2, z2, he, ht', g3, g4⟩ := spoilt_ok code hc (⟨#[65, 47, 97, 90]⟩ : ByteArray) t (by decide) b1 z1 (by omega) (by omega) (by omega)
      refine ⟨t', b2, z2, Ev.succ ?_, by omega, by omega, by omega⟩
      simp only [spec_l1Cur_doc.j0, e1, Option.bind_some, if_true]
      refine Ev.bind he ?_
      exact Ev.now _
  obtain ⟨r, a1, s1, e1, hr0, hr1, g1, g2⟩ := pick_ok code a s 7 hc h0 (by omega) (by omega)
  have hr2 := hr1 (by omega)
  obtain ⟨q, hq⟩ : ∃ q : Nat, r = (q : Int) := ⟨r.toNat, by omega⟩
  subst hq
  obtain ⟨t, a2, s2, he, ht, g3, g4⟩ := innerTop_ok code hc q a1 s1 (by omega) (by omega) (by omega)
  obtain ⟨r3, a3, s3, e3, _, _, g5, g6⟩ := pick_ok code a2 s2 30 hc (by omega) (by omega) (by omega)
  by_cases c0 : r3 = 0
  · obtain ⟨t4, a4, s4, he4, ht4, g7, g8⟩ := innerTop_ok code hc 60 a3 s3 (by omega) (by omega) (by omega)
    obtain ⟨t5, a5, s5, he5, ht5, g9, g10⟩ := hj t4 a4 s4 ht4 (by omega) (by omega)
    refine ⟨t5, a5, s5, ?_, ht5, by omega, by omega⟩
    unfold spec_l1Cur_doc.f
    simp only [e1, Option.bind_some]
    refine Ev.bind he ?_
    simp only [e3, Option.bind_some, if_pos c0]
    exact Ev.bind he4 he5
  · by_cases c1 : r3 = 1
    · obtain ⟨x, a4, s4, e4, hx, g7, g8⟩ := of_ok code a3 s3 [(⟨#[65, 65, 65, 65, 65, 65, 65, 65, 65, 65, 65, 65, 47, 47, 47, 47, 47, 47, 47, 47, 47, 47, 47, 47]⟩ : ByteArray), (⟨#[65, 65, 65, 65, 65, 65, 65, 65, 65, 65, 65, 65, 65, 47, 47, 47, 47, 47, 47, 47, 47, 47, 47, 47, 47, 47]⟩ : ByteArray)] hc (by omega) (by omega) (by simp) (by simp)
      have hxs : x.size ≤ 7200 := by
        simp only [List.mem_cons, List.not_mem_nil, or_false] at hx
        rcases hx with rfl | rfl <;> decide
      obtain ⟨t5, a5, s5, he5, ht5, g9, g10⟩ := hj x a4 s4 hxs (by omega) (by omega)
      refine ⟨t5, a5, s5, ?_, ht5, by omega, by omega⟩
      unfold spec_l1Cur_doc.f
      simp only [e1, Option.bind_some]
      refine Ev.bind he ?_
      simp only [e3, Option.bind_some, if_neg c0, if_pos c1, e4]
      exact he5
    · obtain ⟨t5, a5, s5, he5, ht5, g9, g10⟩ := hj t a3 s3 (by omega) (by omega) (by omega)
      refine ⟨t5, a5, s5, ?_, ht5, by omega, by omega⟩
      unfold spec_l1Cur_doc.f
      simp only [e1, Option.bind_some]
      refine Ev.bind he ?_
      simp only [e3, Option.bind_some, if_neg c0, if_neg c1]
      exact he5
theorem drawWordsOf_ok (code : List Int) (hc : okCode code) : ∃ t, Ev (fun k => spec_DrawWordsOf.f k code) t ∧ t.size ≤ 7203 := by
  obtain ⟨t, a', s', he, ht, _⟩ := doc_ok code hc 0 0 (by omega) (by omega)
  refine ⟨t, ?_, ht⟩
  unfold spec_DrawWordsOf.f
  refine Ev.bind he ?_
  exact Ev.now _
def greedyOf (ws : List ByteArray) (w : Int) : List ByteArray × Bool := if saidB ws w = true then (greedyB w ws, true) else ([], false)
theorem impl_GreedyLines_ev (ws : List ByteArray) (w : Int) (hs : ∀ s ∈ ws, s.size ≤ maxLen) : Ev (fun k => impl_GreedyLines.f k ws w) (greedyOf ws w) := by
  unfold impl_GreedyLines.f greedyOf
  simp only [allFit_val ws w hs, Option.bind_some]
  cases hq : saidB ws w with
  | false => simp only [Bool.false_eq_true, if_false]; exact Ev.now _
  | true =>
    obtain ⟨g1, g2, _, g4, _⟩ := saidB_of hq
    simp only [if_true]
    refine Ev.bind (impl_greedy_ev ws w g4 g1 (fun s h => (g2 s h).2.1)) ?_
    exact Ev.now _
def leastP (ws : List ByteArray) (n i : Int) (r : Int × Bool) : Prop := r.2 = true → i ≤ r.1 ∧ r.1 ≤ 80 ∧ saidB ws r.1 = true ∧ ((greedyB r.1 ws).length : Int) ≤ n ∧ (i < r.1 → saidB ws (r.1 - 1) = true → ¬ ((greedyB (r.1 - 1) ws).length : Int) ≤ n)
theorem least_loops (ws : List ByteArray) (n : Int) (hl : ws.length ≤ maxLen) (hs : ∀ s ∈ ws, s.size ≤ maxLen) (d : Nat) : ∀ i : Nat, i + d = 81 →
    ∃ r, Ev (fun k => spec_LeastWidth.l0 k ws n (i : Int)) r ∧ Ev (fun k => impl_LeastWidth.l0 k ws n (i : Int)) r ∧ leastP ws n (i : Int) r := by
  induction d with
  | zero =>
    intro i h
    refine ⟨(0, false), Ev.succ ?_, Ev.succ ?_, fun h => absurd h (by simp)⟩
    · simp only [spec_LeastWidth.l0, if_neg (show ¬ ((i : Int) ≤ 80) by omega)]; exact Ev.now _
    · simp only [impl_LeastWidth.l0, if_neg (show ¬ ((i : Int) ≤ 80) by omega)]; exact Ev.now _
  | succ d ih =>
    intro i h
    obtain ⟨r, h1, h2, h3⟩ := ih (i + 1) (by omega)
    have hP : (saidB ws (i : Int) = true → ¬ ((greedyB (i : Int) ws).length : Int) ≤ n) → leastP ws n (i : Int) r := by
      intro hno hr
      obtain ⟨q1, q2, q3, q4, q5⟩ := h3 hr
      refine ⟨by omega, q2, q3, q4, fun hlt hsd => ?_⟩
      by_cases he : ((i + 1 : Nat) : Int) < r.1
      · exact q5 he hsd
      · have e : r.1 - 1 = (i : Int) := by omega
        rw [e] at hsd ⊢
        exact hno hsd
    cases hq : saidB ws (i : Int) with
    | false =>
      refine ⟨r, Ev.succ ?_, Ev.succ ?_, hP (fun h => absurd h (by simp [hq]))⟩
      · simp only [spec_LeastWidth.l0, if_pos (show ((i : Int) ≤ 80) by omega), w64 (show -9223372036854775808 ≤ (i : Int) + 1 by omega) (by omega)]
        refine Ev.bind (said_ev ws i hl hs) ?_
        simp only [hq, Bool.false_eq_true, if_false]; exact h1
      · simp only [impl_LeastWidth.l0, if_pos (show ((i : Int) ≤ 80) by omega), w64 (show -9223372036854775808 ≤ (i : Int) + 1 by omega) (by omega), allFit_val ws i hs, Option.bind_some, hq, Bool.false_eq_true, if_false]; exact h2
    | true =>
      obtain ⟨g1, g2, _, g4, _⟩ := saidB_of hq
      by_cases hn : ((greedyB (i : Int) ws).length : Int) ≤ n
      · refine ⟨((i : Int), true), Ev.succ ?_, Ev.succ ?_, fun _ => ⟨Int.le_refl _, by show (i : Int) ≤ 80; omega, hq, hn, fun h => absurd h (Int.lt_irrefl _)⟩⟩
        · simp only [spec_LeastWidth.l0, if_pos (show ((i : Int) ≤ 80) by omega)]
          refine Ev.bind (said_ev ws i hl hs) ?_
          simp only [hq, if_true]
          refine Ev.bind (spec_greedy_ev ws i g4 g1 (fun s h => (g2 s h).2.1)) ?_
          simp only [if_pos hn]; exact Ev.now _
        · simp only [impl_LeastWidth.l0, if_pos (show ((i : Int) ≤ 80) by omega), allFit_val ws i hs, Option.bind_some, hq, if_true]
          refine Ev.bind (impl_greedy_ev ws i g4 g1 (fun s h => (g2 s h).2.1)) ?_
          simp only [if_pos hn]; exact Ev.now _
      · refine ⟨r, Ev.succ ?_, Ev.succ ?_, hP (fun _ => hn)⟩
        · simp only [spec_LeastWidth.l0, if_pos (show ((i : Int) ≤ 80) by omega), w64 (show -9223372036854775808 ≤ (i : Int) + 1 by omega) (by omega)]
          refine Ev.bind (said_ev ws i hl hs) ?_
          simp only [hq, if_true]
          refine Ev.bind (spec_greedy_ev ws i g4 g1 (fun s h => (g2 s h).2.1)) ?_
          simp only [if_neg hn]; exact h1
        · simp only [impl_LeastWidth.l0, if_pos (show ((i : Int) ≤ 80) by omega), w64 (show -9223372036854775808 ≤ (i : Int) + 1 by omega) (by omega), allFit_val ws i hs, Option.bind_some, hq, if_true]
          refine Ev.bind (impl_greedy_ev ws i g4 g1 (fun s h => (g2 s h).2.1)) ?_
          simp only [if_neg hn]; exact h2

theorem saidB_80 (ws : List ByteArray) : saidB ws 80 = (decide (ws.length ≤ 60) && ws.all isWordB) := by
  unfold saidB
  rw [Bool.eq_iff_iff]
  simp only [Bool.and_eq_true, List.all_eq_true, decide_eq_true_eq]
  constructor
  · rintro ⟨⟨h, _⟩, _⟩; exact h
  · rintro ⟨h1, h2⟩
    exact ⟨⟨⟨h1, h2⟩, by decide, by decide⟩, fun s h => by have := (isWordB_size (h2 s h)).2; omega⟩

theorem least_ev (ws : List ByteArray) (n : Int) (hl : ws.length ≤ maxLen) (hs : ∀ s ∈ ws, s.size ≤ maxLen) : ∃ r, Ev (fun k => spec_LeastWidth.f k ws n) r ∧ Ev (fun k => impl_LeastWidth.f k ws n) r ∧ (ws ≠ [] → leastP ws n 1 r) := by
  unfold spec_LeastWidth.f impl_LeastWidth.f
  cases hq : saidB ws 80 with
  | false =>
    refine ⟨(0, false), ?_, ?_, fun _ h => absurd h (by simp)⟩
    · refine Ev.bind (said_ev ws 80 hl hs) ?_
      simp only [hq, Bool.false_eq_true, if_false]
      refine Ev.succ ?_
      simp only [spec_LeastWidth.j0, if_true]; exact Ev.now _
    · simp only [areWords_val ws hs, Option.bind_some, ← saidB_80, hq, Bool.false_eq_true, if_false]
      refine Ev.succ ?_
      simp only [impl_LeastWidth.j0, if_true]; exact Ev.now _
  | true =>
    have hin : ∀ b : Bool, ∃ r, Ev (fun k => spec_LeastWidth.j0 k ws n b) r ∧ Ev (fun k => impl_LeastWidth.j0 k ws n b) r ∧ (ws ≠ [] → leastP ws n 1 r) := by
      intro b
      cases b with
      | true =>
        refine ⟨(0, false), Ev.succ ?_, Ev.succ ?_, fun _ h => absurd h (by simp)⟩
        · simp only [spec_LeastWidth.j0, if_true]; exact Ev.now _
        · simp only [impl_LeastWidth.j0, if_true]; exact Ev.now _
      | false =>
        by_cases h0 : ws.length = 0
        · refine ⟨(0, true), Ev.succ ?_, Ev.succ ?_, fun h => absurd (List.eq_nil_of_length_eq_zero h0) h⟩
          · simp only [spec_LeastWidth.j0, Bool.false_eq_true, if_false, if_pos (show (ws.length : Int) = 0 by omega)]; exact Ev.now _
          · simp only [impl_LeastWidth.j0, Bool.false_eq_true, if_false, if_pos (show (ws.length : Int) = 0 by omega)]; exact Ev.now _
        · obtain ⟨r, h1, h2, h3⟩ := least_loops ws n hl hs 80 1 (by omega)
          refine ⟨r, Ev.succ ?_, Ev.succ ?_, fun _ => h3⟩
          · simp only [spec_LeastWidth.j0, Bool.false_eq_true, if_false, if_neg (show ¬ (ws.length : Int) = 0 by omega)]; exact h1
          · simp only [impl_LeastWidth.j0, Bool.false_eq_true, if_false, if_neg (show ¬ (ws.length : Int) = 0 by omega)]; exact h2
    obtain ⟨r, h1, h2, h3⟩ := hin (!(decide (1 ≤ n) && decide (n ≤ 60)))
    refine ⟨r, ?_, ?_, h3⟩
    · refine Ev.bind (said_ev ws 80 hl hs) ?_
      simp only [hq, if_true, l1In_val, Option.bind_some]; exact h1
    · simp only [areWords_val ws hs, Option.bind_some, ← saidB_80, hq, if_true]
      by_cases hn : n < 1
      · rw [decide_eq_false (show ¬ 1 ≤ n by omega)] at h2
        simp only [if_pos hn]; exact h2
      · rw [decide_eq_true (show 1 ≤ n by omega)] at h2
        simp only [if_neg hn]
        rw [show decide (n > 60) = !(true && decide (n ≤ 60)) by rw [Bool.eq_iff_iff]; simp]
        exact h2
theorem word_bytes {s : ByteArray} (h : isWordB s = true) : bL s ≠ [] ∧ ∀ b ∈ bL s, plain8 b = true ∧ b ≠ 32 := by
  have hsz := isWordB_size h
  unfold isWordB at h
  rw [Bool.and_eq_true, Bool.and_eq_true] at h
  have h0 := h.1.1
  unfold solidFrom at h0
  rw [List.all_eq_true] at h0
  refine ⟨fun e => by have := congrArg List.length e; rw [bL_length, List.length_nil] at this; omega, fun b hb => ?_⟩
  obtain ⟨i, hi, rfl⟩ := List.getElem_of_mem hb
  have hi2 : i < s.size := by rw [← bL_length]; exact hi
  have := h0 i (List.mem_range.2 (by omega))
  rw [show ((0 + i : Nat) : Int) = (i : Int) by omega, bL_bt s i hi, Bool.and_eq_true] at this
  refine ⟨this.1, fun e => ?_⟩
  have h2 := of_decide_eq_true this.2
  rw [e] at h2
  exact h2 rfl
theorem bL_append (a b : ByteArray) : bL (a ++ b) = bL a ++ bL b := by
  unfold bL
  rw [ByteArray.data_append, Array.toList_append]
theorem bL_joinGo (l : List ByteArray) : ∀ acc, bL (joinGo acc l) = bL acc ++ l.flatMap (fun s => 32 :: bL s) := by
  induction l with
  | nil => intro acc; simp [joinGo]
  | cons s l ih =>
    intro acc
    rw [joinGo, ih, bL_append, bL_append, List.flatMap_cons]
    show bL acc ++ [32] ++ bL s ++ _ = _
    simp
theorem wordsL_word (w : List UInt8) (h : ∀ b ∈ w, b ≠ 32) (rest : List UInt8) : ∀ cur, wordsL (w ++ rest) cur = wordsL rest (cur ++ w) := by
  induction w with
  | nil => intro cur; simp
  | cons b w ih =>
    intro cur
    rw [List.cons_append, wordsL, if_neg (h b (List.mem_cons_self ..)), ih (fun x hx => h x (List.mem_cons_of_mem _ hx)), List.append_assoc]
    rfl
theorem wordsL_join (l : List ByteArray) (h : ∀ s ∈ l, isWordB s = true) : ∀ cur, cur ≠ [] → wordsL (l.flatMap (fun s => 32 :: bL s)) cur = cur :: l.map bL := by
  induction l with
  | nil => intro cur hc; simp [wordsL, hc]
  | cons s l ih =>
    intro cur hc
    have hw := word_bytes (h s (List.mem_cons_self ..))
    rw [List.flatMap_cons, List.cons_append, wordsL, if_pos rfl, if_neg hc, wordsL_word (bL s) (fun b hb => (hw.2 b hb).2), List.nil_append, ih (fun x hx => h x (List.mem_cons_of_mem _ hx)) (bL s) hw.1, List.map_cons]
theorem words_back (ws : List ByteArray) (h : ∀ s ∈ ws, isWordB s = true) : wordsB (keepL (joinB ws)) = ws := by
  cases ws with
  | nil => rfl
  | cons s l =>
    have hw := word_bytes (h s (List.mem_cons_self ..))
    have hb : bL (joinB (s :: l)) = bL s ++ l.flatMap (fun s => 32 :: bL s) := bL_joinGo l s
    have hk : keepL (joinB (s :: l)) = bL (joinB (s :: l)) := by
      unfold keepL
      rw [List.filter_eq_self, hb]
      intro b hm
      rcases List.mem_append.1 hm with h1 | h1
      · exact (hw.2 b h1).1
      · obtain ⟨t, ht, hbt⟩ := List.mem_flatMap.1 h1
        rcases List.mem_cons.1 hbt with rfl | h2
        · rfl
        · exact ((word_bytes (h t (List.mem_cons_of_mem _ ht))).2 b h2).1
    unfold wordsB
    rw [hk, hb, wordsL_word (bL s) (fun b hb => (hw.2 b hb).2), List.nil_append, wordsL_join l (fun x hx => h x (List.mem_cons_of_mem _ hx)) (bL s) hw.1, List.map_cons, List.map_map]
    have : (mkB ∘ bL) = id := funext fun x => mk_bL x
    rw [this, List.map_id, mk_bL]
theorem wordsOf_back (ws : List ByteArray) (hl : ws.length ≤ 60) (h : ∀ s ∈ ws, isWordB s = true) (ht : textB (joinB ws) = true) : wordsOfB (joinB ws) = (ws, true) := by
  unfold wordsOfB
  rw [if_pos ht, words_back ws h]
  unfold finW
  rw [if_pos (by rw [Bool.and_eq_true]; exact ⟨decide_eq_true hl, List.all_eq_true.2 h⟩)]
end Go.Proofs.Ytokklflckaikgaa.X
