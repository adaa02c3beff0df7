/- The law FnExactAgreesWith of the program: its proof, part 5. -/
import Derived.Test.YtoldjejfninhkaaMFnExactAgreesWith4
import Derived.Test.YtoldjejfninhkaaMFnExactAgreesWith2
import Derived.Deep.DeepCutAuto
import Derived.Test.YtoldjejfninhkaaMFnExactAgreesWith3
set_option linter.unusedVariables false
set_option linter.unusedSimpArgs false
namespace Go.Proofs.Ytoldjejfninhkaa.X
open Go.RowKit Go.Proofs.YtoldjejfninhkaaW.PrintWords Go.Proofs.YtoldjejfninhkaaW.PrintLast Go.Proofs.YtoldjejfninhkaaW.PrintMore
set_option maxHeartbeats 8000000 in
set_option maxRecDepth 100000 in
theorem isClient_walk (i : Int) (t : ByteArray) (v q : Int) (b : Bool) (A5 : Option Addr) (c5 : Nat) (s5 : List (S86)) (A6 : Option Addr) (c6 : Nat) (s6 : List (S86)) (d : Bool) (w : World) (h5 : Kd.C k86 w A5 s5.length s5) (hc5 : s5.length ≤ c5) (h6 : Kd.C k86 w A6 s6.length s6) (hc6 : s6.length ≤ c6) (hz : t.size ≤ maxLen) (hs5 : sizedP s5 = true) (hs6 : sizedP s6 = true) :
    Calls Try.prog 37 #[.agg #[.int .i64 i, .string t, .int .i64 v, .int .i64 q, .bool b, .slice A5 s5.length c5, .slice A6 s6.length c6, .bool d]] w fun e w' => e = .returned (.bool (clientB ⟨i, t, v, q, b, s5, s6, d⟩)) ∧ Below w.heap.size w w' := by
  have H5 := mz h5
  have HC5 := mz hc5
  have H6 := mz h6
  have HC6 := mz hc6
  clear h5 hc5 h6 hc6
  obtain ⟨KT, hKT⟩ := Ev.rounds (implText_ev t hz)
  obtain ⟨K5, hK5⟩ := Ev.rounds (implGoodOp_ev s5 hs5)
  obtain ⟨K6, hK6⟩ := Ev.rounds (implGoodOp_ev s6 hs6)
  have HKT := mz hKT
  have HK5 := mz hK5
  have HK6 := mz hK6
  clear hKT hK5 hK6 hz hs5 hs6
  by_cases n0 : i < 0
  · go_enter Try.func37, Try.ntmps37
    go_wp2_with ((with_reducible refine gate_dst (N := 1) rfl ?_); refine bx 1 #[.int .i64 i, .string t, .int .i64 v, .int .i64 q, .bool b, .slice A5 s5.length c5, .slice A6 s6.length c6, .bool d] 51 ?_; intro g hg w1 hbox hb1; have HB1 := mz hb1; have BK1 := mz hbox; obtain ⟨x0, x1, x2, x3, x4, x5, x6, x7⟩ := cells8 hbox; clear hg hbox hb1)
    have HR : Aside0 (clientB ⟨i, t, v, q, b, s5, s6, d⟩ = false) := ⟨by simp [clientB, show ¬ 0 ≤ i by omega]⟩
    go_wp2_with fail
    go_ret
    exact ⟨by rw [HR.out]; rfl, HB1.out⟩
  by_cases n1 : i ≥ 4
  · go_enter Try.func37, Try.ntmps37
    go_wp2_with ((with_reducible refine gate_dst (N := 1) rfl ?_); refine bx 1 #[.int .i64 i, .string t, .int .i64 v, .int .i64 q, .bool b, .slice A5 s5.length c5, .slice A6 s6.length c6, .bool d] 51 ?_; intro g hg w1 hbox hb1; have HB1 := mz hb1; have BK1 := mz hbox; obtain ⟨x0, x1, x2, x3, x4, x5, x6, x7⟩ := cells8 hbox; clear hg hbox hb1)
    have HR : Aside0 (clientB ⟨i, t, v, q, b, s5, s6, d⟩ = false) := ⟨by simp [clientB, show ¬ i ≤ 3 by omega]⟩
    go_wp2_with fail
    go_ret
    exact ⟨by rw [HR.out]; rfl, HB1.out⟩
  go_enter Try.func37, Try.ntmps37
  go_wp2_with ((with_reducible refine gate_dst (N := 1) rfl ?_); refine bx 1 #[.int .i64 i, .string t, .int .i64 v, .int .i64 q, .bool b, .slice A5 s5.length c5, .slice A6 s6.length c6, .bool d] 51 ?_; intro g hg w1 hbox hb1; have HB1 := mz hb1; have BK1 := mz hbox; obtain ⟨x0, x1, x2, x3, x4, x5, x6, x7⟩ := cells8 hbox; clear hg hbox hb1)
  refine (impl_GoodText.calls KT t _ _ HKT.out).mono ?_
  rintro e w2 ⟨rfl, hd⟩
  have hb := hd.below
  have HB2 := mz (below_step HB1.out hb)
  have BK2 := mz (blk_below BK1.out hb)
  clear hd hb x0 x1 x2 x3 x4 x5 x6 x7
  obtain ⟨x0, x1, x2, x3, x4, x5, x6, x7⟩ := cells8 BK2.out
  cases ht : textB t with
  | false =>
    have HR : Aside0 (clientB ⟨i, t, v, q, b, s5, s6, d⟩ = false) := ⟨by simp [clientB, ht]⟩
    go_wp2_with fail
    go_ret
    exact ⟨by rw [HR.out]; rfl, HB2.out⟩
  | true =>
    by_cases m0 : v < 0
    · have HR : Aside0 (clientB ⟨i, t, v, q, b, s5, s6, d⟩ = false) := ⟨by simp [clientB, show ¬ 0 ≤ v by omega]⟩
      go_wp2_with fail
      go_ret
      exact ⟨by rw [HR.out]; rfl, HB2.out⟩
    by_cases m1 : v > 1000
    · have HR : Aside0 (clientB ⟨i, t, v, q, b, s5, s6, d⟩ = false) := ⟨by simp [clientB, show ¬ v ≤ 1000 by omega]⟩
      go_wp2_with fail
      go_ret
      exact ⟨by rw [HR.out]; rfl, HB2.out⟩
    by_cases m2 : q < 0
    · have HR : Aside0 (clientB ⟨i, t, v, q, b, s5, s6, d⟩ = false) := ⟨by simp [clientB, show ¬ 0 ≤ q by omega]⟩
      go_wp2_with fail
      go_ret
      exact ⟨by rw [HR.out]; rfl, HB2.out⟩
    by_cases m3 : q > 1000
    · have HR : Aside0 (clientB ⟨i, t, v, q, b, s5, s6, d⟩ = false) := ⟨by simp [clientB, show ¬ q ≤ 1000 by omega]⟩
      go_wp2_with fail
      go_ret
      exact ⟨by rw [HR.out]; rfl, HB2.out⟩
    have HV : Aside0 (clientB ⟨i, t, v, q, b, s5, s6, d⟩ = (opB s5 && opB s6 && tailC ⟨i, t, v, q, b, s5, s6, d⟩)) := ⟨by simp [clientB, ht, show 0 ≤ i by omega, show i ≤ 3 by omega, show 0 ≤ v by omega, show v ≤ 1000 by omega, show 0 ≤ q by omega, show q ≤ 1000 by omega]⟩
    clear ht
    go_wp2_with fail
    refine (impl_GoodOp.calls K5 A5 c5 s5 _ _ (Kd.C_below H5.out HB2.out) HC5.out HK5.out).mono ?_
    rintro e w3 ⟨rfl, hd⟩
    have hb := hd
    have HB3 := mz (below_step HB2.out hb)
    have BK3 := mz (blk_below BK2.out hb)
    clear hd hb x0 x1 x2 x3 x4 x5 x6 x7
    obtain ⟨x0, x1, x2, x3, x4, x5, x6, x7⟩ := cells8 BK3.out
    cases h5 : opB s5 with
    | false =>
      have HR : Aside0 (clientB ⟨i, t, v, q, b, s5, s6, d⟩ = false) := ⟨by rw [HV.out, h5]; rfl⟩
      go_wp2_with fail
      go_ret
      exact ⟨by rw [HR.out]; rfl, HB3.out⟩
    | true =>
      go_wp2_with fail
      refine (impl_GoodOp.calls K6 A6 c6 s6 _ _ (Kd.C_below H6.out HB3.out) HC6.out HK6.out).mono ?_
      rintro e w4 ⟨rfl, hd⟩
      have hb := hd
      have HB4 := mz (below_step HB3.out hb)
      have BK4 := mz (blk_below BK3.out hb)
      clear hd hb x0 x1 x2 x3 x4 x5 x6 x7
      obtain ⟨x0, x1, x2, x3, x4, x5, x6, x7⟩ := cells8 BK4.out
      cases h6 : opB s6 with
      | false =>
        have HR : Aside0 (clientB ⟨i, t, v, q, b, s5, s6, d⟩ = false) := ⟨by rw [HV.out, h5, h6]; rfl⟩
        go_wp2_with fail
        go_ret
        exact ⟨by rw [HR.out]; rfl, HB4.out⟩
      | true =>
        have HV2 : Aside0 (clientB ⟨i, t, v, q, b, s5, s6, d⟩ = tailC ⟨i, t, v, q, b, s5, s6, d⟩) := ⟨by rw [HV.out, h5, h6]; rfl⟩
        clear HV h5 h6
        have key : ∀ (r : Bool), tailC ⟨i, t, v, q, b, s5, s6, d⟩ = r → Ending.returned (.bool r) = Ending.returned (.bool (clientB ⟨i, t, v, q, b, s5, s6, d⟩)) := fun r hr => by rw [HV2.out, hr]
        have KEY := mz key
        clear key
        rcases Nat.eq_zero_or_pos s5.length with e5 | e5 <;> rcases Nat.eq_zero_or_pos s6.length with e6 | e6
        · have z5 : ¬ (0 : Int) < (s5.length : Int) := by omega
          have z6 : ¬ (0 : Int) < (s6.length : Int) := by omega
          by_cases e3 : q > 0 <;> cases b <;> cases d <;> (go_wp2_with fail; go_ret; exact ⟨KEY.out _ (by simp [tailC, e3, e5, e6]), HB4.out⟩)
        · have z5 : ¬ (0 : Int) < (s5.length : Int) := by omega
          have z6 : (0 : Int) < (s6.length : Int) := by omega
          by_cases e3 : q > 0 <;> cases b <;> cases d <;> (go_wp2_with fail; go_ret; exact ⟨KEY.out _ (by simp [tailC, e3, e5, show ¬ s6.length = 0 by omega]), HB4.out⟩)
        · have z5 : (0 : Int) < (s5.length : Int) := by omega
          have z6 : ¬ (0 : Int) < (s6.length : Int) := by omega
          by_cases e3 : q > 0 <;> cases b <;> cases d <;> (go_wp2_with fail; go_ret; exact ⟨KEY.out _ (by simp [tailC, e3, show ¬ s5.length = 0 by omega, e6]), HB4.out⟩)
        · have z5 : (0 : Int) < (s5.length : Int) := by omega
          have z6 : (0 : Int) < (s6.length : Int) := by omega
          by_cases e3 : q > 0 <;> cases b <;> cases d <;> (go_wp2_with fail; go_ret; exact ⟨KEY.out _ (by simp [tailC, e3, show ¬ s5.length = 0 by omega, show ¬ s6.length = 0 by omega]), HB4.out⟩)
set_option maxHeartbeats 8000000 in
set_option maxRecDepth 100000 in
theorem l16Client_walk (i : Int) (t : ByteArray) (v q : Int) (b : Bool) (A5 : Option Addr) (c5 : Nat) (s5 : List (S86)) (A6 : Option Addr) (c6 : Nat) (s6 : List (S86)) (d : Bool) (w : World) (h5 : Kd.C k86 w A5 s5.length s5) (hc5 : s5.length ≤ c5) (h6 : Kd.C k86 w A6 s6.length s6) (hc6 : s6.length ≤ c6) (hz : t.size ≤ maxLen) (hs5 : sizedP s5 = true) (hs6 : sizedP s6 = true) :
    Calls Try.prog 30 #[.agg #[.int .i64 i, .string t, .int .i64 v, .int .i64 q, .bool b, .slice A5 s5.length c5, .slice A6 s6.length c6, .bool d]] w fun e w' => e = .returned (.bool (clientB ⟨i, t, v, q, b, s5, s6, d⟩)) ∧ Below w.heap.size w w' := by
  have H5 := mz h5
  have HC5 := mz hc5
  have H6 := mz h6
  have HC6 := mz hc6
  clear h5 hc5 h6 hc6
  obtain ⟨KT, hKT⟩ := Ev.rounds (specText_ev t hz)
  obtain ⟨K5, hK5⟩ := Ev.rounds (specGoodOp_ev s5 hs5)
  obtain ⟨K6, hK6⟩ := Ev.rounds (specGoodOp_ev s6 hs6)
  have HKT := mz hKT
  have HK5 := mz hK5
  have HK6 := mz hK6
  clear hKT hK5 hK6 hz hs5 hs6
  go_enter Try.func30, Try.ntmps30
  go_wp2_with ((with_reducible refine gate_dst (N := 1) rfl ?_); refine bx 1 #[.int .i64 i, .string t, .int .i64 v, .int .i64 q, .bool b, .slice A5 s5.length c5, .slice A6 s6.length c6, .bool d] 51 ?_; intro g hg w1 hbox hb1; have HB1 := mz hb1; have BK1 := mz hbox; obtain ⟨x0, x1, x2, x3, x4, x5, x6, x7⟩ := cells8 hbox; clear hg hbox hb1)
  refine (spec_l1In.calls i 0 3 _ _ (l1In_val _ _ _)).mono ?_
  rintro e w2 ⟨rfl, hd⟩
  have hb := hd.below
  have HB2 := mz (below_step HB1.out hb)
  have BK2 := mz (blk_below BK1.out hb)
  clear hd hb x0 x1 x2 x3 x4 x5 x6 x7
  obtain ⟨x0, x1, x2, x3, x4, x5, x6, x7⟩ := cells8 BK2.out
  cases h0 : (decide (0 ≤ i) && decide (i ≤ 3)) with
  | false =>
    have HR : Aside0 (clientB ⟨i, t, v, q, b, s5, s6, d⟩ = false) := ⟨by simp only [clientB, h0, Bool.false_and]⟩
    go_wp2_with fail
    go_ret
    exact ⟨by rw [HR.out]; rfl, HB2.out⟩
  | true =>
    go_wp2_with fail
    refine (spec_GoodText.calls KT t _ _ HKT.out).mono ?_
    rintro e w3 ⟨rfl, hd⟩
    have hb := hd.below
    have HB3 := mz (below_step HB2.out hb)
    have BK3 := mz (blk_below BK2.out hb)
    clear hd hb x0 x1 x2 x3 x4 x5 x6 x7
    obtain ⟨x0, x1, x2, x3, x4, x5, x6, x7⟩ := cells8 BK3.out
    cases ht : textB t with
    | false =>
      have HR : Aside0 (clientB ⟨i, t, v, q, b, s5, s6, d⟩ = false) := ⟨by simp only [clientB, ht, Bool.and_false, Bool.false_and]⟩
      go_wp2_with fail
      go_ret
      exact ⟨by rw [HR.out]; rfl, HB3.out⟩
    | true =>
      go_wp2_with fail
      refine (spec_l1In.calls v 0 1000 _ _ (l1In_val _ _ _)).mono ?_
      rintro e w4 ⟨rfl, hd⟩
      have hb := hd.below
      have HB4 := mz (below_step HB3.out hb)
      have BK4 := mz (blk_below BK3.out hb)
      clear hd hb x0 x1 x2 x3 x4 x5 x6 x7
      obtain ⟨x0, x1, x2, x3, x4, x5, x6, x7⟩ := cells8 BK4.out
      cases h2 : (decide (0 ≤ v) && decide (v ≤ 1000)) with
      | false =>
        have HR : Aside0 (clientB ⟨i, t, v, q, b, s5, s6, d⟩ = false) := ⟨by rw [clientB_parts, h2]; simp⟩
        go_wp2_with fail
        go_ret
        exact ⟨by rw [HR.out]; rfl, HB4.out⟩
      | true =>
        go_wp2_with fail
        refine (spec_l1In.calls q 0 1000 _ _ (l1In_val _ _ _)).mono ?_
        rintro e w5 ⟨rfl, hd⟩
        have hb := hd.below
        have HB5 := mz (below_step HB4.out hb)
        have BK5 := mz (blk_below BK4.out hb)
        clear hd hb x0 x1 x2 x3 x4 x5 x6 x7
        obtain ⟨x0, x1, x2, x3, x4, x5, x6, x7⟩ := cells8 BK5.out
        cases h3 : (decide (0 ≤ q) && decide (q ≤ 1000)) with
        | false =>
          have HR : Aside0 (clientB ⟨i, t, v, q, b, s5, s6, d⟩ = false) := ⟨by rw [clientB_parts, h3]; simp⟩
          go_wp2_with fail
          go_ret
          exact ⟨by rw [HR.out]; rfl, HB5.out⟩
        | true =>
          have HV : Aside0 (clientB ⟨i, t, v, q, b, s5, s6, d⟩ = (opB s5 && opB s6 && tailC ⟨i, t, v, q, b, s5, s6, d⟩)) := ⟨by rw [clientB_parts, h0, ht, h2, h3]; rfl⟩
          clear h0 ht h2 h3
          go_wp2_with fail
          refine (spec_GoodOp.calls K5 A5 c5 s5 _ _ (Kd.C_below H5.out HB5.out) HC5.out HK5.out).mono ?_
          rintro e w6 ⟨rfl, hd⟩
          have hb := hd
          have HB6 := mz (below_step HB5.out hb)
          have BK6 := mz (blk_below BK5.out hb)
          clear hd hb x0 x1 x2 x3 x4 x5 x6 x7
          obtain ⟨x0, x1, x2, x3, x4, x5, x6, x7⟩ := cells8 BK6.out
          cases h5 : opB s5 with
          | false =>
            have HR : Aside0 (clientB ⟨i, t, v, q, b, s5, s6, d⟩ = false) := ⟨by rw [HV.out, h5]; rfl⟩
            go_wp2_with fail
            go_ret
            exact ⟨by rw [HR.out]; rfl, HB6.out⟩
          | true =>
            go_wp2_with fail
            refine (spec_GoodOp.calls K6 A6 c6 s6 _ _ (Kd.C_below H6.out HB6.out) HC6.out HK6.out).mono ?_
            rintro e w7 ⟨rfl, hd⟩
            have hb := hd
            have HB7 := mz (below_step HB6.out hb)
            have BK7 := mz (blk_below BK6.out hb)
            clear hd hb x0 x1 x2 x3 x4 x5 x6 x7
            obtain ⟨x0, x1, x2, x3, x4, x5, x6, x7⟩ := cells8 BK7.out
            cases h6 : opB s6 with
            | false =>
              have HR : Aside0 (clientB ⟨i, t, v, q, b, s5, s6, d⟩ = false) := ⟨by rw [HV.out, h5, h6]; rfl⟩
              go_wp2_with fail
              go_ret
              exact ⟨by rw [HR.out]; rfl, HB7.out⟩
            | true =>
              have HV2 : Aside0 (clientB ⟨i, t, v, q, b, s5, s6, d⟩ = tailC ⟨i, t, v, q, b, s5, s6, d⟩) := ⟨by rw [HV.out, h5, h6]; rfl⟩
              clear HV h5 h6
              have key : ∀ (r : Bool), tailC ⟨i, t, v, q, b, s5, s6, d⟩ = r → Ending.returned (.bool r) = Ending.returned (.bool (clientB ⟨i, t, v, q, b, s5, s6, d⟩)) := fun r hr => by rw [HV2.out, hr]
              have KEY := mz key
              clear key
              rcases Nat.eq_zero_or_pos s5.length with e5 | e5 <;> rcases Nat.eq_zero_or_pos s6.length with e6 | e6
              · have z5 : ((s5.length : Int) == 0) = true := by simp [e5]
                have z6 : ((s6.length : Int) == 0) = true := by simp [e6]
                by_cases e3 : q > 0 <;> cases b <;> cases d <;> (go_wp2_with fail; go_ret; exact ⟨KEY.out _ (by simp [tailC, e3, e5, e6]), HB7.out⟩)
              · have z5 : ((s5.length : Int) == 0) = true := by simp [e5]
                have z6 : ((s6.length : Int) == 0) = false := beq_eq_false_iff_ne.2 (by omega)
                by_cases e3 : q > 0 <;> cases b <;> cases d <;> (go_wp2_with fail; go_ret; exact ⟨KEY.out _ (by simp [tailC, e3, e5, show ¬ s6.length = 0 by omega]), HB7.out⟩)
              · have z5 : ((s5.length : Int) == 0) = false := beq_eq_false_iff_ne.2 (by omega)
                have z6 : ((s6.length : Int) == 0) = true := by simp [e6]
                by_cases e3 : q > 0 <;> cases b <;> cases d <;> (go_wp2_with fail; go_ret; exact ⟨KEY.out _ (by simp [tailC, e3, show ¬ s5.length = 0 by omega, e6]), HB7.out⟩)
              · have z5 : ((s5.length : Int) == 0) = false := beq_eq_false_iff_ne.2 (by omega)
                have z6 : ((s6.length : Int) == 0) = false := beq_eq_false_iff_ne.2 (by omega)
                by_cases e3 : q > 0 <;> cases b <;> cases d <;> (go_wp2_with fail; go_ret; exact ⟨KEY.out _ (by simp [tailC, e3, show ¬ s5.length = 0 by omega, show ¬ s6.length = 0 by omega]), HB7.out⟩)

def impl_isClient.f (a0_0 : Int) (a0_1 : ByteArray) (a0_2 : Int) (a0_3 : Int) (a0_4 : Bool) (l0_5 : List (S86)) (l0_6 : List (S86)) (a0_7 : Bool) : Option (Bool) := if a0_1.size ≤ maxLen ∧ sizedP l0_5 = true ∧ sizedP l0_6 = true then some (clientB ⟨a0_0, a0_1, a0_2, a0_3, a0_4, l0_5, l0_6, a0_7⟩) else none
theorem impl_isClient.calls (a0_0 : Int) (a0_1 : ByteArray) (a0_2 : Int) (a0_3 : Int) (a0_4 : Bool) (A0_5 : Option Addr) (c0_5 : Nat) (l0_5 : List (S86)) (A0_6 : Option Addr) (c0_6 : Nat) (l0_6 : List (S86)) (a0_7 : Bool) (r : Bool) (w : World) (hr0_5 : Kd.C k86 w A0_5 l0_5.length l0_5) (hc0_5 : l0_5.length ≤ c0_5) (hr0_6 : Kd.C k86 w A0_6 l0_6.length l0_6) (hc0_6 : l0_6.length ≤ c0_6) (h : impl_isClient.f a0_0 a0_1 a0_2 a0_3 a0_4 l0_5 l0_6 a0_7 = some r) :
    Calls Try.prog 37 #[.agg #[.int .i64 a0_0, .string a0_1, .int .i64 a0_2, .int .i64 a0_3, .bool a0_4, .slice A0_5 l0_5.length c0_5, .slice A0_6 l0_6.length c0_6, .bool a0_7]] w fun e w' => e = .returned (.bool r) ∧ Below w.heap.size w w' := by
  unfold impl_isClient.f at h
  by_cases hs : a0_1.size ≤ maxLen ∧ sizedP l0_5 = true ∧ sizedP l0_6 = true
  · rw [if_pos hs] at h
    obtain rfl := Option.some.inj h
    exact isClient_walk a0_0 a0_1 a0_2 a0_3 a0_4 A0_5 c0_5 l0_5 A0_6 c0_6 l0_6 a0_7 w hr0_5 hc0_5 hr0_6 hc0_6 hs.1 hs.2.1 hs.2.2
  · rw [if_neg hs] at h
    exact absurd h (by simp)
theorem impl_isClient_ev (y : Client) (h1 : y.f1.size ≤ maxLen) (h5 : sizedP y.f5 = true) (h6 : sizedP y.f6 = true) : impl_isClient.f y.f0 y.f1 y.f2 y.f3 y.f4 y.f5 y.f6 y.f7 = some (clientB y) := by
  unfold impl_isClient.f; rw [if_pos ⟨h1, h5, h6⟩]


def spec_l16Client.f (a0_0 : Int) (a0_1 : ByteArray) (a0_2 : Int) (a0_3 : Int) (a0_4 : Bool) (l0_5 : List (S86)) (l0_6 : List (S86)) (a0_7 : Bool) : Option (Bool) := if a0_1.size ≤ maxLen ∧ sizedP l0_5 = true ∧ sizedP l0_6 = true then some (clientB ⟨a0_0, a0_1, a0_2, a0_3, a0_4, l0_5, l0_6, a0_7⟩) else none
theorem spec_l16Client.calls (a0_0 : Int) (a0_1 : ByteArray) (a0_2 : Int) (a0_3 : Int) (a0_4 : Bool) (A0_5 : Option Addr) (c0_5 : Nat) (l0_5 : List (S86)) (A0_6 : Option Addr) (c0_6 : Nat) (l0_6 : List (S86)) (a0_7 : Bool) (r : Bool) (w : World) (hr0_5 : Kd.C k86 w A0_5 l0_5.length l0_5) (hc0_5 : l0_5.length ≤ c0_5) (hr0_6 : Kd.C k86 w A0_6 l0_6.length l0_6) (hc0_6 : l0_6.length ≤ c0_6) (h : spec_l16Client.f a0_0 a0_1 a0_2 a0_3 a0_4 l0_5 l0_6 a0_7 = some r) :
    Calls Try.prog 30 #[.agg #[.int .i64 a0_0, .string a0_1, .int .i64 a0_2, .int .i64 a0_3, .bool a0_4, .slice A0_5 l0_5.length c0_5, .slice A0_6 l0_6.length c0_6, .bool a0_7]] w fun e w' => e = .returned (.bool r) ∧ Below w.heap.size w w' := by
  unfold spec_l16Client.f at h
  by_cases hs : a0_1.size ≤ maxLen ∧ sizedP l0_5 = true ∧ sizedP l0_6 = true
  · rw [if_pos hs] at h
    obtain rfl := Option.some.inj h
    exact l16Client_walk a0_0 a0_1 a0_2 a0_3 a0_4 A0_5 c0_5 l0_5 A0_6 c0_6 l0_6 a0_7 w hr0_5 hc0_5 hr0_6 hc0_6 hs.1 hs.2.1 hs.2.2
  · rw [if_neg hs] at h
    exact absurd h (by simp)
theorem spec_l16Client_ev (y : Client) (h1 : y.f1.size ≤ maxLen) (h5 : sizedP y.f5 = true) (h6 : sizedP y.f6 = true) : spec_l16Client.f y.f0 y.f1 y.f2 y.f3 y.f4 y.f5 y.f6 y.f7 = some (clientB y) := by
  unfold spec_l16Client.f; rw [if_pos ⟨h1, h5, h6⟩]
section
attribute [local go_sem] max2_int min2_int max_two min_two max_three min_three max_four min_four
def spec_l15Last.l0 : Nat → Int → Int → List (S67) → Int → Int → Option (Int)
  | 0, _, _, _, _, _ => none
  | k + 1, x1, x5, x9, x10, x11 => if x11 < x10 then (if 0 ≤ x11 then (if x11 < (x9.length : Int) then (if ((rd_T67 x9 x11).f0) = x1 then (spec_l15Last.l0 k x1 ((rd_T67 x9 x11).f1) x9 x10 (wrap64 (x11 + 1))) else (spec_l15Last.l0 k x1 x5 x9 x10 (wrap64 (x11 + 1)))) else (none)) else (none)) else (some x5)
def spec_l15Last.f (k : Nat) (a0_0 : ByteArray) (a0_1 : ByteArray) (l0_2 : List (S67)) (a1 : Int) : Option (Int) := spec_l15Last.l0 k a1 0 l0_2 (l0_2.length : Int) 0
set_option maxHeartbeats 8000000 in
set_option maxRecDepth 100000 in
theorem spec_l15Last.calls (k : Nat) (a0_0 : ByteArray) (a0_1 : ByteArray) (A0_2 : Option Addr) (c0_2 : Nat) (l0_2 : List (S67)) (a1 : Int) (r : Int) (w : World) (hr0_2 : Kd.C k67 w A0_2 l0_2.length l0_2) (hc0_2 : l0_2.length ≤ c0_2) (h : spec_l15Last.f k a0_0 a0_1 l0_2 a1 = some r) :
    Calls Try.prog 32 #[.agg #[.string a0_0, .string a0_1, .slice A0_2 l0_2.length c0_2], .int .i64 a1] w fun e w' => e = .returned (.int .i64 r) ∧ Below w.heap.size w w' := by
  have hu24 := Try.underlying24
  have hu67 := Try.underlying67
  have HR0_2 := mz hr0_2
  have HC0_2 := mz hc0_2
  clear hr0_2 hc0_2
  have HB := mz (Below.refl w.heap.size w)
  have H : (spec_l15Last.l0 k a1 0 l0_2 (l0_2.length : Int) 0) = some r := h
  clear h
  have H' := mz H
  clear H
  go_enter Try.func32, Try.ntmps32
  go_wp2_with (first | ((with_reducible refine gate_dst (N := 2) rfl ?_); refine box_event ?hg (N := 2) ?hd (cs := #[.string a0_0, .string a0_1, .slice A0_2 l0_2.length c0_2]) (t := 24) ?hr ?_; (case hd => rfl); (case hg => rfl); (case hr => first | (go_simp; done) | (go_simp; rfl)); intro gb101 hg w3 hbox hb; have n0_ := mz (below_step (by repeat (first | (with_reducible first | exact HB.out | apply below_alloc | apply pw_below_drewN | apply below_drew1) | exact HB.out)) hb); have n1_ := mz (hbox); have n2_ := mz ((by rw [hg]; exact (below_size (by repeat (first | (with_reducible first | exact HB.out | apply below_alloc | apply pw_below_drewN | apply below_drew1) | exact HB.out))) : w.heap.size ≤ gb101)); have n3_ := mz ((by rw [hg]; exact (below_size (by repeat (first | (with_reducible first | exact HB.out | apply below_alloc | apply pw_below_drewN | apply below_drew1) | exact HB.out))) : w.heap.size ≤ gb101)); clear HB; have HB := n0_; have BK101 := n1_; have GW101 := n2_; have GE101 := n3_; clear n0_ n1_ n2_ n3_; clear hb hbox hg; have hcz4_0 : w3.cell? ⟨gb101, 0, none⟩ = some (.string a0_0) := (blk_cell BK101.out 0).trans rfl; have hcz4_1 : w3.cell? ⟨gb101, 1, none⟩ = some (.string a0_1) := (blk_cell BK101.out 1).trans rfl; have hcz4_2 : w3.cell? ⟨gb101, 2, none⟩ = some (.slice A0_2 l0_2.length c0_2) := (blk_cell BK101.out 2).trans rfl; have hfz4_0 := blk_frozen BK101.out 0; have hfz4_1 := blk_frozen BK101.out 1; have hfz4_2 := blk_frozen BK101.out 2))
  go_loopg [5, 11] k (fun kq v5 v11 w' => ∃ (x5_1 : Int) (x11_1 : Int), v5 = .int .i64 x5_1 ∧ v11 = .int .i64 x11_1 ∧ Aside0 (spec_l15Last.l0 kq a1 x5_1 l0_2 (l0_2.length : Int) x11_1 = some r) ∧ Aside0 (kq ≤ k) ∧ Aside0 (w'.heap[gb101]? = some (.cells #[.string a0_0, .string a0_1, (.slice A0_2 l0_2.length c0_2)] 24 (0, 0))) ∧ Aside0 (Below w.heap.size w w'))
  case atStart => exact ⟨(0), (0), (by first | rfl | (simp; done) | (simp [*]; done)), (by first | rfl | (simp; done) | (simp [*]; done)), H', ⟨Nat.le_refl _⟩, ⟨by (with_reducible repeat (first | refine blk_drewN ?_ _ | refine blk_drew ?_ | refine blk_alloc ?_ _)); exact BK101.out⟩, ⟨by repeat (first | (with_reducible first | exact HB.out | apply below_alloc | apply pw_below_drewN | apply below_drew1 | refine below_set ?_ GE101.out) | exact HB.out)⟩⟩
  case round =>
    clear H'
    try clear p2
    try clear c3
    try clear hcz4_0
    try clear hcz4_1
    try clear hcz4_2
    try clear hfz4_0
    try clear hfz4_1
    try clear hfz4_2
    obtain ⟨x5_1, x11_1, rfl, rfl, HA, HK1, BK101, HB⟩ := hrel
    cases gk with
    | zero => exact absurd HA.out (by simp [spec_l15Last.l0])
    | succ k1 =>
      have H := HA.out
      clear HA
      simp only [spec_l15Last.l0] at H
      by_cases c5 : x11_1 < (l0_2.length : Int)
      · rw [if_pos c5] at H
        have c5b0 : decide (x11_1 < (l0_2.length : Int)) = true := decide_eq_true c5
        clear c5
        by_cases c6 : 0 ≤ x11_1
        · rw [if_pos c6] at H
          have c6b0 : decide (0 ≤ x11_1) = true := decide_eq_true c6
          clear c6
          by_cases c7 : x11_1 < (l0_2.length : Int)
          · rw [if_pos c7] at H
            have c7b0 : decide (x11_1 < (l0_2.length : Int)) = true := decide_eq_true c7
            clear c7
            by_cases c8 : ((rd_T67 l0_2 x11_1).f0) = a1
            · rw [if_pos c8] at H
              have c8b0 : (((rd_T67 l0_2 x11_1).f0) == a1) = true := beq_iff_eq.mpr c8
              have c8b1 : (((rd_T67 l0_2 x11_1).f0) != a1) = false := bne_eq_false_iff_eq.mpr c8
              clear c8
              have H' := mz H
              clear H
              have p102 : 0 ≤ (x11_1 : Int) := of_decide_eq_true (by first | (with_reducible assumption) | assumption)
              have q102 : x11_1 < (l0_2.length : Int) := of_decide_eq_true (by first | (with_reducible assumption) | assumption)
              obtain ⟨ad102, A102_2, c102_2, e102, hx102_0, hx102_1, hx102_2, hl102_2, hi102_2⟩ := at_T67 HR0_2.out x11_1 p102 q102
              cases e102
              replace hx102_0 := bc_ HB.out hx102_0
              replace hx102_1 := bc_ HB.out hx102_1
              replace hx102_2 := bc_ HB.out hx102_2
              have HR102_2 := mz hi102_2
              have HC102_2 := mz hl102_2
              clear hi102_2 hl102_2
              replace p102 := eq_true p102
              replace q102 := eq_true q102
              go_wp2_with (first | ((with_reducible refine gate_dst (N := 7) rfl ?_); refine box_event ?hg (N := 7) ?hd (cs := #[.int .i64 0, .int .i64 0, .slice none 0 0]) (t := 67) ?hr ?_; (case hd => rfl); (case hg => rfl); (case hr => first | (go_simp; done) | (go_simp; rfl)); intro gb103 hg w9 hbox hb; have n0_ := mz (blk_below (g := gb101) (o := .cells #[.string a0_0, .string a0_1, .slice (some ad102) l0_2.length c0_2] 24 (0, 0)) (by (with_reducible repeat (first | refine blk_drewN ?_ _ | refine blk_drew ?_ | refine blk_alloc ?_ _)); exact BK101.out) hb); have n1_ := mz (below_step (by repeat (first | (with_reducible first | exact HB.out | apply below_alloc | apply pw_below_drewN | apply below_drew1 | refine below_set ?_ GE101.out) | exact HB.out)) hb); have n2_ := mz (hbox); have n3_ := mz ((by rw [hg]; exact (below_size (by repeat (first | (with_reducible first | exact HB.out | apply below_alloc | apply pw_below_drewN | apply below_drew1 | refine below_set ?_ GE101.out) | exact HB.out))) : w.heap.size ≤ gb103)); have n4_ := mz ((by rw [hg]; exact (below_size (by repeat (first | (with_reducible first | exact HB.out | apply below_alloc | apply pw_below_drewN | apply below_drew1 | refine below_set ?_ GE101.out) | exact HB.out))) : w.heap.size ≤ gb103)); have n5_ := mz ((by rw [hg]; exact Nat.ne_of_lt (blk_lt (g := gb101) (o := .cells #[.string a0_0, .string a0_1, .slice (some ad102) l0_2.length c0_2] 24 (0, 0)) (by (with_reducible repeat (first | refine blk_drewN ?_ _ | refine blk_drew ?_ | refine blk_alloc ?_ _)); exact BK101.out)) : gb101 ≠ gb103)); have n6_ := mz ((by rw [hg]; exact Nat.ne_of_gt (blk_lt (g := gb101) (o := .cells #[.string a0_0, .string a0_1, .slice (some ad102) l0_2.length c0_2] 24 (0, 0)) (by (with_reducible repeat (first | refine blk_drewN ?_ _ | refine blk_drew ?_ | refine blk_alloc ?_ _)); exact BK101.out)) : gb103 ≠ gb101)); clear BK101; clear HB; have BK101 := n0_; have HB := n1_; have BK103 := n2_; have GW103 := n3_; have GE103 := n4_; have NB101_103 := n5_; have NB103_101 := n6_; clear n0_ n1_ n2_ n3_ n4_ n5_ n6_; clear hb hbox hg; have hnb10 := NB103_101.out; have hnc10 := NB101_103.out; have hcz11_0 : w9.cell? ⟨gb103, 0, none⟩ = some (.int .i64 0) := (blk_cell BK103.out 0).trans rfl; have hcz11_1 : w9.cell? ⟨gb103, 1, none⟩ = some (.int .i64 0) := (blk_cell BK103.out 1).trans rfl; have hcz11_2 : w9.cell? ⟨gb103, 2, none⟩ = some (.slice none 0 0) := (blk_cell BK103.out 2).trans rfl; have hfz11_0 := blk_frozen BK103.out 0; have hfz11_1 := blk_frozen BK103.out 1; have hfz11_2 := blk_frozen BK103.out 2))
              go_roundg k1
              case measure => have := HK1.out; omega
              case rel => exact ⟨((rd_T67 l0_2 x11_1).f1), (wrap64 (x11_1 + 1)), (by first | rfl | (simp; done) | (simp [*]; done)), (by first | rfl | (simp; done) | (simp [*]; done)), H', ⟨by have := HK1.out; omega⟩, ⟨by (with_reducible repeat (first | refine blk_drewN ?_ _ | refine blk_drew ?_ | refine blk_alloc ?_ _)); refine blk_far ?_ NB101_103.out _; (with_reducible repeat (first | refine blk_drewN ?_ _ | refine blk_drew ?_ | refine blk_alloc ?_ _)); refine blk_far ?_ NB101_103.out _; (with_reducible repeat (first | refine blk_drewN ?_ _ | refine blk_drew ?_ | refine blk_alloc ?_ _)); refine blk_far ?_ NB101_103.out _; (with_reducible repeat (first | refine blk_drewN ?_ _ | refine blk_drew ?_ | refine blk_alloc ?_ _)); exact BK101.out⟩, ⟨by repeat (first | (with_reducible first | exact HB.out | apply below_alloc | apply pw_below_drewN | apply below_drew1 | refine below_set ?_ GE101.out | refine below_set ?_ GE103.out) | exact HB.out)⟩⟩
            · rw [if_neg c8] at H
              have c8b0 : (((rd_T67 l0_2 x11_1).f0) == a1) = false := beq_eq_false_iff_ne.mpr c8
              have c8b1 : (((rd_T67 l0_2 x11_1).f0) != a1) = true := bne_iff_ne.mpr c8
              have H' := mz H
              clear H
              have p102 : 0 ≤ (x11_1 : Int) := of_decide_eq_true (by first | (with_reducible assumption) | assumption)
              have q102 : x11_1 < (l0_2.length : Int) := of_decide_eq_true (by first | (with_reducible assumption) | assumption)
              obtain ⟨ad102, A102_2, c102_2, e102, hx102_0, hx102_1, hx102_2, hl102_2, hi102_2⟩ := at_T67 HR0_2.out x11_1 p102 q102
              cases e102
              replace hx102_0 := bc_ HB.out hx102_0
              replace hx102_1 := bc_ HB.out hx102_1
              replace hx102_2 := bc_ HB.out hx102_2
              have HR102_2 := mz hi102_2
              have HC102_2 := mz hl102_2
              clear hi102_2 hl102_2
              replace p102 := eq_true p102
              replace q102 := eq_true q102
              go_wp2_with (first | ((with_reducible refine gate_dst (N := 7) rfl ?_); refine box_event ?hg (N := 7) ?hd (cs := #[.int .i64 0, .int .i64 0, .slice none 0 0]) (t := 67) ?hr ?_; (case hd => rfl); (case hg => rfl); (case hr => first | (go_simp; done) | (go_simp; rfl)); intro gb103 hg w12 hbox hb; have n0_ := mz (blk_below (g := gb101) (o := .cells #[.string a0_0, .string a0_1, .slice (some ad102) l0_2.length c0_2] 24 (0, 0)) (by (with_reducible repeat (first | refine blk_drewN ?_ _ | refine blk_drew ?_ | refine blk_alloc ?_ _)); exact BK101.out) hb); have n1_ := mz (below_step (by repeat (first | (with_reducible first | exact HB.out | apply below_alloc | apply pw_below_drewN | apply below_drew1 | refine below_set ?_ GE101.out) | exact HB.out)) hb); have n2_ := mz (hbox); have n3_ := mz ((by rw [hg]; exact (below_size (by repeat (first | (with_reducible first | exact HB.out | apply below_alloc | apply pw_below_drewN | apply below_drew1 | refine below_set ?_ GE101.out) | exact HB.out))) : w.heap.size ≤ gb103)); have n4_ := mz ((by rw [hg]; exact (below_size (by repeat (first | (with_reducible first | exact HB.out | apply below_alloc | apply pw_below_drewN | apply below_drew1 | refine below_set ?_ GE101.out) | exact HB.out))) : w.heap.size ≤ gb103)); have n5_ := mz ((by rw [hg]; exact Nat.ne_of_lt (blk_lt (g := gb101) (o := .cells #[.string a0_0, .string a0_1, .slice (some ad102) l0_2.length c0_2] 24 (0, 0)) (by (with_reducible repeat (first | refine blk_drewN ?_ _ | refine blk_drew ?_ | refine blk_alloc ?_ _)); exact BK101.out)) : gb101 ≠ gb103)); have n6_ := mz ((by rw [hg]; exact Nat.ne_of_gt (blk_lt (g := gb101) (o := .cells #[.string a0_0, .string a0_1, .slice (some ad102) l0_2.length c0_2] 24 (0, 0)) (by (with_reducible repeat (first | refine blk_drewN ?_ _ | refine blk_drew ?_ | refine blk_alloc ?_ _)); exact BK101.out)) : gb103 ≠ gb101)); clear BK101; clear HB; have BK101 := n0_; have HB := n1_; have BK103 := n2_; have GW103 := n3_; have GE103 := n4_; have NB101_103 := n5_; have NB103_101 := n6_; clear n0_ n1_ n2_ n3_ n4_ n5_ n6_; clear hb hbox hg; have hnb13 := NB103_101.out; have hnc13 := NB101_103.out; have hcz14_0 : w12.cell? ⟨gb103, 0, none⟩ = some (.int .i64 0) := (blk_cell BK103.out 0).trans rfl; have hcz14_1 : w12.cell? ⟨gb103, 1, none⟩ = some (.int .i64 0) := (blk_cell BK103.out 1).trans rfl; have hcz14_2 : w12.cell? ⟨gb103, 2, none⟩ = some (.slice none 0 0) := (blk_cell BK103.out 2).trans rfl; have hfz14_0 := blk_frozen BK103.out 0; have hfz14_1 := blk_frozen BK103.out 1; have hfz14_2 := blk_frozen BK103.out 2))
              go_roundg k1
              case measure => have := HK1.out; omega
              case rel => exact ⟨(x5_1), (wrap64 (x11_1 + 1)), (by first | rfl | (simp; done) | (simp [*]; done)), (by first | rfl | (simp; done) | (simp [*]; done)), H', ⟨by have := HK1.out; omega⟩, ⟨by (with_reducible repeat (first | refine blk_drewN ?_ _ | refine blk_drew ?_ | refine blk_alloc ?_ _)); refine blk_far ?_ NB101_103.out _; (with_reducible repeat (first | refine blk_drewN ?_ _ | refine blk_drew ?_ | refine blk_alloc ?_ _)); refine blk_far ?_ NB101_103.out _; (with_reducible repeat (first | refine blk_drewN ?_ _ | refine blk_drew ?_ | refine blk_alloc ?_ _)); refine blk_far ?_ NB101_103.out _; (with_reducible repeat (first | refine blk_drewN ?_ _ | refine blk_drew ?_ | refine blk_alloc ?_ _)); exact BK101.out⟩, ⟨by repeat (first | (with_reducible first | exact HB.out | apply below_alloc | apply pw_below_drewN | apply below_drew1 | refine below_set ?_ GE101.out | refine below_set ?_ GE103.out) | exact HB.out)⟩⟩
          · rw [if_neg c7] at H
            exact absurd H (by simp)
        · rw [if_neg c6] at H
          exact absurd H (by simp)
      · rw [if_neg c5] at H
        have c5b0 : decide (x11_1 < (l0_2.length : Int)) = false := decide_eq_false c5
        clear c5
        obtain rfl := Option.some.inj H
        go_wp2
        go_ret
        exact ⟨by first | rfl | (simp [errW_none, errW_some] <;> rfl) | (simp [*, errW_none, errW_some] <;> rfl), by repeat (first | (with_reducible first | exact HB.out | apply below_alloc | apply pw_below_drewN | apply below_drew1 | refine below_set ?_ GE101.out) | exact HB.out)⟩
end
section
attribute [local go_sem] max2_int min2_int max_two min_two max_three min_three max_four min_four
def spec_l16InLog.l0 : Nat → List (S67) → Int → Int → Int → ByteArray → Int → Int → Bool → List (S86) → List (S86) → Bool → Option (Bool)
  | 0, _, _, _, _, _, _, _, _, _, _, _ => none
  | k + 1, x11, x12, x13, x103000, x103001, x103002, x103003, x103004, x103005, x103006, x103007 => if x13 < x12 then (if 0 ≤ x13 then (if x13 < (x11.length : Int) then (if ((rd_T67 x11 x13).f0) = x103000 then (if ((rd_T67 x11 x13).f1) = x103003 then (some true) else (spec_l16InLog.l0 k x11 x12 (wrap64 (x13 + 1)) x103000 x103001 x103002 x103003 x103004 x103005 x103006 x103007)) else (spec_l16InLog.l0 k x11 x12 (wrap64 (x13 + 1)) x103000 x103001 x103002 x103003 x103004 x103005 x103006 x103007)) else (none)) else (none)) else (some false)
def spec_l16InLog.f (k : Nat) (a0_0 : ByteArray) (a0_1 : ByteArray) (l0_2 : List (S67)) (a1_0 : Int) (a1_1 : ByteArray) (a1_2 : Int) (a1_3 : Int) (a1_4 : Bool) (l1_5 : List (S86)) (l1_6 : List (S86)) (a1_7 : Bool) : Option (Bool) := if 0 ≤ a1_2 then (if a1_2 ≤ (l0_2.length : Int) then ((some (l0_2.drop (a1_2 : Int).toNat : List (S67))).bind fun y103 => (spec_l16InLog.l0 k y103 (y103.length : Int) 0 a1_0 a1_1 a1_2 a1_3 a1_4 l1_5 l1_6 a1_7)) else (none)) else (none)
set_option maxHeartbeats 8000000 in
set_option maxRecDepth 100000 in
theorem spec_l16InLog.calls (k : Nat) (a0_0 : ByteArray) (a0_1 : ByteArray) (A0_2 : Option Addr) (c0_2 : Nat) (l0_2 : List (S67)) (a1_0 : Int) (a1_1 : ByteArray) (a1_2 : Int) (a1_3 : Int) (a1_4 : Bool) (A1_5 : Option Addr) (c1_5 : Nat) (l1_5 : List (S86)) (A1_6 : Option Addr) (c1_6 : Nat) (l1_6 : List (S86)) (a1_7 : Bool) (r : Bool) (w : World) (hr0_2 : Kd.C k67 w A0_2 l0_2.length l0_2) (hc0_2 : l0_2.length ≤ c0_2) (hr1_5 : Kd.C k86 w A1_5 l1_5.length l1_5) (hc1_5 : l1_5.length ≤ c1_5) (hr1_6 : Kd.C k86 w A1_6 l1_6.length l1_6) (hc1_6 : l1_6.length ≤ c1_6) (h : spec_l16InLog.f k a0_0 a0_1 l0_2 a1_0 a1_1 a1_2 a1_3 a1_4 l1_5 l1_6 a1_7 = some r) :
    Calls Try.prog 33 #[.agg #[.string a0_0, .string a0_1, .slice A0_2 l0_2.length c0_2], .agg #[.int .i64 a1_0, .string a1_1, .int .i64 a1_2, .int .i64 a1_3, .bool a1_4, .slice A1_5 l1_5.length c1_5, .slice A1_6 l1_6.length c1_6, .bool a1_7]] w fun e w' => e = .returned (.bool r) ∧ Below w.heap.size w w' := by
  have hu24 := Try.underlying24
  have hu51 := Try.underlying51
  have hu67 := Try.underlying67
  have HR0_2 := mz hr0_2
  have HC0_2 := mz hc0_2
  clear hr0_2 hc0_2
  have HR1_5 := mz hr1_5
  have HC1_5 := mz hc1_5
  clear hr1_5 hc1_5
  have HR1_6 := mz hr1_6
  have HC1_6 := mz hc1_6
  clear hr1_6 hc1_6
  have HB := mz (Below.refl w.heap.size w)
  have H : (if 0 ≤ a1_2 then (if a1_2 ≤ (l0_2.length : Int) then ((some (l0_2.drop (a1_2 : Int).toNat : List (S67))).bind fun y103 => (spec_l16InLog.l0 k y103 (y103.length : Int) 0 a1_0 a1_1 a1_2 a1_3 a1_4 l1_5 l1_6 a1_7)) else (none)) else (none)) = some r := h
  clear h
  by_cases c3 : 0 ≤ a1_2
  · rw [if_pos c3] at H
    have c3b0 := eq_true c3
    have c3b1 : decide (0 ≤ a1_2) = true := decide_eq_true c3
    clear c3
    by_cases c4 : a1_2 ≤ (l0_2.length : Int)
    · rw [if_pos c4] at H
      have c4b0 := eq_true c4
      have c4b1 : decide (a1_2 ≤ (l0_2.length : Int)) = true := decide_eq_true c4
      clear c4
      obtain ⟨y103, hy103⟩ : ∃ y_ : List (S67), y_ = (l0_2.drop (a1_2 : Int).toNat) := ⟨_, rfl⟩
      replace H : (spec_l16InLog.l0 k y103 (y103.length : Int) 0 a1_0 a1_1 a1_2 a1_3 a1_4 l1_5 l1_6 a1_7) = some r := by first | (rw [hy103]; with_reducible exact H) | (have H2_ := (Option.bind_some _ _).symm.trans H; rw [hy103]; with_reducible exact H2_) | (have H2_ := (Option.bind_some _ _).symm.trans H; with_reducible exact H2_) | with_reducible exact H | (rw [hy103]; exact H) | exact H
      have Ny103 := mz hy103
      clear hy103
      have H' := mz H
      clear H
      go_enter Try.func33, Try.ntmps33
      go_wp2_with (first | ((with_reducible refine gate_dst (N := 2) rfl ?_); refine box_event ?hg (N := 2) ?hd (cs := #[.string a0_0, .string a0_1, .slice A0_2 l0_2.length c0_2]) (t := 24) ?hr ?_; (case hd => rfl); (case hg => rfl); (case hr => first | (go_simp; done) | (go_simp; rfl)); intro gb101 hg w5 hbox hb; have n0_ := mz (below_step (by repeat (first | (with_reducible first | exact HB.out | apply below_alloc | apply pw_below_drewN | apply below_drew1) | exact HB.out)) hb); have n1_ := mz (hbox); have n2_ := mz ((by rw [hg]; exact (below_size (by repeat (first | (with_reducible first | exact HB.out | apply below_alloc | apply pw_below_drewN | apply below_drew1) | exact HB.out))) : w.heap.size ≤ gb101)); have n3_ := mz ((by rw [hg]; exact (below_size (by repeat (first | (with_reducible first | exact HB.out | apply below_alloc | apply pw_below_drewN | apply below_drew1) | exact HB.out))) : w.heap.size ≤ gb101)); clear HB; have HB := n0_; have BK101 := n1_; have GW101 := n2_; have GE101 := n3_; clear n0_ n1_ n2_ n3_; clear hb hbox hg) | ((with_reducible refine gate_dst (N := 3) rfl ?_); refine box_event ?hg (N := 3) ?hd (cs := #[.int .i64 a1_0, .string a1_1, .int .i64 a1_2, .int .i64 a1_3, .bool a1_4, .slice A1_5 l1_5.length c1_5, .slice A1_6 l1_6.length c1_6, .bool a1_7]) (t := 51) ?hr ?_; (case hd => rfl); (case hg => rfl); (case hr => first | (go_simp; done) | (go_simp; rfl)); intro gb102 hg w6 hbox hb; have n0_ := mz (blk_below (g := gb101) (o := .cells #[.string a0_0, .string a0_1, .slice A0_2 l0_2.length c0_2] 24 (0, 0)) (by (with_reducible repeat (first | refine blk_drewN ?_ _ | refine blk_drew ?_ | refine blk_alloc ?_ _)); exact BK101.out) hb); have n1_ := mz (below_step (by repeat (first | (with_reducible first | exact HB.out | apply below_alloc | apply pw_below_drewN | apply below_drew1 | refine below_set ?_ GE101.out) | exact HB.out)) hb); have n2_ := mz (hbox); have n3_ := mz ((by rw [hg]; exact (below_size (by repeat (first | (with_reducible first | exact HB.out | apply below_alloc | apply pw_below_drewN | apply below_drew1 | refine below_set ?_ GE101.out) | exact HB.out))) : w.heap.size ≤ gb102)); have n4_ := mz ((by rw [hg]; exact (below_size (by repeat (first | (with_reducible first | exact HB.out | apply below_alloc | apply pw_below_drewN | apply below_drew1 | refine below_set ?_ GE101.out) | exact HB.out))) : w.heap.size ≤ gb102)); have n5_ := mz ((by rw [hg]; exact Nat.ne_of_lt (blk_lt (g := gb101) (o := .cells #[.string a0_0, .string a0_1, .slice A0_2 l0_2.length c0_2] 24 (0, 0)) (by (with_reducible repeat (first | refine blk_drewN ?_ _ | refine blk_drew ?_ | refine blk_alloc ?_ _)); exact BK101.out)) : gb101 ≠ gb102)); have n6_ := mz ((by rw [hg]; exact Nat.ne_of_gt (blk_lt (g := gb101) (o := .cells #[.string a0_0, .string a0_1, .slice A0_2 l0_2.length c0_2] 24 (0, 0)) (by (with_reducible repeat (first | refine blk_drewN ?_ _ | refine blk_drew ?_ | refine blk_alloc ?_ _)); exact BK101.out)) : gb102 ≠ gb101)); clear BK101; clear HB; have BK101 := n0_; have HB := n1_; have BK102 := n2_; have GW102 := n3_; have GE102 := n4_; have NB101_102 := n5_; have NB102_101 := n6_; clear n0_ n1_ n2_ n3_ n4_ n5_ n6_; clear hb hbox hg; have hnb7 := NB101_102.out; have hnc7 := NB102_101.out; have hcz8_0 : w6.cell? ⟨gb101, 0, none⟩ = some (.string a0_0) := (blk_cell BK101.out 0).trans rfl; have hcz8_1 : w6.cell? ⟨gb101, 1, none⟩ = some (.string a0_1) := (blk_cell BK101.out 1).trans rfl; have hcz8_2 : w6.cell? ⟨gb101, 2, none⟩ = some (.slice A0_2 l0_2.length c0_2) := (blk_cell BK101.out 2).trans rfl; have hfz8_0 := blk_frozen BK101.out 0; have hfz8_1 := blk_frozen BK101.out 1; have hfz8_2 := blk_frozen BK101.out 2; have hcz9_0 : w6.cell? ⟨gb102, 0, none⟩ = some (.int .i64 a1_0) := (blk_cell BK102.out 0).trans rfl; have hcz9_1 : w6.cell? ⟨gb102, 1, none⟩ = some (.string a1_1) := (blk_cell BK102.out 1).trans rfl; have hcz9_2 : w6.cell? ⟨gb102, 2, none⟩ = some (.int .i64 a1_2) := (blk_cell BK102.out 2).trans rfl; have hcz9_3 : w6.cell? ⟨gb102, 3, none⟩ = some (.int .i64 a1_3) := (blk_cell BK102.out 3).trans rfl; have hcz9_4 : w6.cell? ⟨gb102, 4, none⟩ = some (.bool a1_4) := (blk_cell BK102.out 4).trans rfl; have hcz9_5 : w6.cell? ⟨gb102, 5, none⟩ = some (.slice A1_5 l1_5.length c1_5) := (blk_cell BK102.out 5).trans rfl; have hcz9_6 : w6.cell? ⟨gb102, 6, none⟩ = some (.slice A1_6 l1_6.length c1_6) := (blk_cell BK102.out 6).trans rfl; have hcz9_7 : w6.cell? ⟨gb102, 7, none⟩ = some (.bool a1_7) := (blk_cell BK102.out 7).trans rfl; have hfz9_0 := blk_frozen BK102.out 0; have hfz9_1 := blk_frozen BK102.out 1; have hfz9_2 := blk_frozen BK102.out 2; have hfz9_3 := blk_frozen BK102.out 3; have hfz9_4 := blk_frozen BK102.out 4; have hfz9_5 := blk_frozen BK102.out 5; have hfz9_6 := blk_frozen BK102.out 6; have hfz9_7 := blk_frozen BK102.out 7; have q10 : (a1_2 : Int) ≤ ((l0_2.length : Int) : Int) := of_decide_eq_true (by first | (with_reducible assumption) | assumption); obtain ⟨i010, hi010, _, hsz10, _⟩ := info_parts info67; have hroom10 : l0_2.length ≤ c0_2 := HC0_2.out; have hC10 : Kd.C k67 _ A0_2 l0_2.length l0_2 := HR0_2.out; have q010 : (0 : Int) ≤ (a1_2 : Int) := of_decide_eq_true (by first | (with_reducible assumption) | assumption); have hcut10 := cut_from (P := Try.prog) 22 67 .i64 Try.underlying22 hi010 3 hsz10 A0_2 l0_2.length c0_2 a1_2 q010 q10; have hr10 := Kd.C_drop (m := (a1_2 : Int).toNat) (c := c0_2) hC10 (by omega) hroom10; obtain ⟨A10, hA10⟩ : ∃ A1, A1 = (if c0_2 = (a1_2 : Int).toNat then A0_2 else (A0_2 : Option Addr).map (·.add ((a1_2 : Int).toNat * 3))) := ⟨_, rfl⟩; obtain ⟨c10, hc10⟩ : ∃ c1, c1 = c0_2 - (a1_2 : Int).toNat := ⟨_, rfl⟩; have hy10 : y103.length = l0_2.length - (a1_2 : Int).toNat := (by rw [Ny103.out, List.length_drop] <;> omega); rw [show (l0_2).drop (a1_2 : Int).toNat = y103 from Ny103.out.symm] at hr10; replace hr10 : Kd.C k67 _ A10 y103.length y103 := (by rw [hA10]; exact hr10); rw [← hy10, ← hA10, ← hc10] at hcut10; have HR106 := mz hr10; have HC106 := mz (show y103.length ≤ c10 from by rw [hy10, hc10]; exact Nat.sub_le_sub_right hroom10 _); clear hr10 hC10 hroom10 hi010 hsz10 hc10; have KY10 := mz hy10; have KA10 := mz hA10; clear hy10 hA10; replace q10 := eq_true q10))
      go_loopg [13] k (fun kq v13 w' => ∃ (x13_1 : Int), v13 = .int .i64 x13_1 ∧ Aside0 (spec_l16InLog.l0 kq y103 (y103.length : Int) x13_1 a1_0 a1_1 a1_2 a1_3 a1_4 l1_5 l1_6 a1_7 = some r) ∧ Aside0 (kq ≤ k) ∧ Aside0 (w'.heap[gb101]? = some (.cells #[.string a0_0, .string a0_1, (.slice A0_2 l0_2.length c0_2)] 24 (0, 0))) ∧ Aside0 (w'.heap[gb102]? = some (.cells #[.int .i64 a1_0, .string a1_1, .int .i64 a1_2, .int .i64 a1_3, .bool a1_4, (.slice A1_5 l1_5.length c1_5), (.slice A1_6 l1_6.length c1_6), .bool a1_7] 51 (0, 0))) ∧ Aside0 (Below w.heap.size w w'))
      case atStart => exact ⟨(0), (by first | rfl | (simp; done) | (simp [*]; done)), H', ⟨Nat.le_refl _⟩, ⟨by (with_reducible repeat (first | refine blk_drewN ?_ _ | refine blk_drew ?_ | refine blk_alloc ?_ _)); exact BK101.out⟩, ⟨by (with_reducible repeat (first | refine blk_drewN ?_ _ | refine blk_drew ?_ | refine blk_alloc ?_ _)); exact BK102.out⟩, ⟨by repeat (first | (with_reducible first | exact HB.out | apply below_alloc | apply pw_below_drewN | apply below_drew1 | refine below_set ?_ GE101.out | refine below_set ?_ GE102.out) | exact HB.out)⟩⟩
      case round =>
        clear H'
        try clear c1
        try clear q1
        try clear p2
        try clear c3
        try clear c3b0
        try clear c3b1
        try clear c4
        try clear c4b0
        try clear c4b1
        try clear c7
        try clear c10
        try clear q10
        try clear hcz8_0
        try clear hcz8_1
        try clear hcz8_2
        try clear hcz9_0
        try clear hcz9_1
        try clear hcz9_2
        try clear hcz9_3
        try clear hcz9_4
        try clear hcz9_5
        try clear hcz9_6
        try clear hcz9_7
        try clear hfz8_0
        try clear hfz8_1
        try clear hfz8_2
        try clear hfz9_0
        try clear hfz9_1
        try clear hfz9_2
        try clear hfz9_3
        try clear hfz9_4
        try clear hfz9_5
        try clear hfz9_6
        try clear hfz9_7
        try clear q010
        try clear q10
        obtain ⟨x13_1, rfl, HA, HK1, BK101, BK102, HB⟩ := hrel
        cases gk with
        | zero => exact absurd HA.out (by simp [spec_l16InLog.l0])
        | succ k1 =>
          have H := HA.out
          clear HA
          simp only [spec_l16InLog.l0] at H
          by_cases c11 : x13_1 < (y103.length : Int)
          · rw [if_pos c11] at H
            have c11b0 : decide (x13_1 < (y103.length : Int)) = true := decide_eq_true c11
            clear c11
            by_cases c12 : 0 ≤ x13_1
            · rw [if_pos c12] at H
              have c12b0 : decide (0 ≤ x13_1) = true := decide_eq_true c12
              clear c12
              by_cases c13 : x13_1 < (y103.length : Int)
              · rw [if_pos c13] at H
                have c13b0 : decide (x13_1 < (y103.length : Int)) = true := decide_eq_true c13
                clear c13
                by_cases c14 : ((rd_T67 y103 x13_1).f0) = a1_0
                · rw [if_pos c14] at H
                  have c14b0 : (((rd_T67 y103 x13_1).f0) == a1_0) = true := beq_iff_eq.mpr c14
                  have c14b1 : (((rd_T67 y103 x13_1).f0) != a1_0) = false := bne_eq_false_iff_eq.mpr c14
                  clear c14
                  by_cases c15 : ((rd_T67 y103 x13_1).f1) = a1_3
                  · rw [if_pos c15] at H
                    have c15b0 : (((rd_T67 y103 x13_1).f1) == a1_3) = true := beq_iff_eq.mpr c15
                    have c15b1 : (((rd_T67 y103 x13_1).f1) != a1_3) = false := bne_eq_false_iff_eq.mpr c15
                    clear c15
                    obtain rfl := Option.some.inj H
                    have p107 : 0 ≤ (x13_1 : Int) := of_decide_eq_true (by first | (with_reducible assumption) | assumption)
                    have q107 : x13_1 < (y103.length : Int) := of_decide_eq_true (by first | (with_reducible assumption) | assumption)
                    obtain ⟨ad107, A107_2, c107_2, e107, hx107_0, hx107_1, hx107_2, hl107_2, hi107_2⟩ := at_T67 HR106.out x13_1 p107 q107
                    cases e107
                    replace hx107_0 := bc_ HB.out hx107_0
                    replace hx107_1 := bc_ HB.out hx107_1
                    replace hx107_2 := bc_ HB.out hx107_2
                    have HR107_2 := mz hi107_2
                    have HC107_2 := mz hl107_2
                    clear hi107_2 hl107_2
                    replace p107 := eq_true p107
                    replace q107 := eq_true q107
                    go_wp2_with (first | ((with_reducible refine gate_dst (N := 6) rfl ?_); refine box_event ?hg (N := 6) ?hd (cs := #[.int .i64 0, .int .i64 0, .slice none 0 0]) (t := 67) ?hr ?_; (case hd => rfl); (case hg => rfl); (case hr => first | (go_simp; done) | (go_simp; rfl)); intro gb108 hg w16 hbox hb; have n0_ := mz (blk_below (g := gb101) (o := .cells #[.string a0_0, .string a0_1, .slice A0_2 l0_2.length c0_2] 24 (0, 0)) (by (with_reducible repeat (first | refine blk_drewN ?_ _ | refine blk_drew ?_ | refine blk_alloc ?_ _)); exact BK101.out) hb); have n1_ := mz (blk_below (g := gb102) (o := .cells #[.int .i64 a1_0, .string a1_1, .int .i64 a1_2, .int .i64 a1_3, .bool a1_4, .slice A1_5 l1_5.length c1_5, .slice A1_6 l1_6.length c1_6, .bool a1_7] 51 (0, 0)) (by (with_reducible repeat (first | refine blk_drewN ?_ _ | refine blk_drew ?_ | refine blk_alloc ?_ _)); exact BK102.out) hb); have n2_ := mz (below_step (by repeat (first | (with_reducible first | exact HB.out | apply below_alloc | apply pw_below_drewN | apply below_drew1 | refine below_set ?_ GE101.out | refine below_set ?_ GE102.out) | exact HB.out)) hb); have n3_ := mz (hbox); have n4_ := mz ((by rw [hg]; exact (below_size (by repeat (first | (with_reducible first | exact HB.out | apply below_alloc | apply pw_below_drewN | apply below_drew1 | refine below_set ?_ GE101.out | refine below_set ?_ GE102.out) | exact HB.out))) : w.heap.size ≤ gb108)); have n5_ := mz ((by rw [hg]; exact (below_size (by repeat (first | (with_reducible first | exact HB.out | apply below_alloc | apply pw_below_drewN | apply below_drew1 | refine below_set ?_ GE101.out | refine below_set ?_ GE102.out) | exact HB.out))) : w.heap.size ≤ gb108)); have n6_ := mz ((by rw [hg]; exact Nat.ne_of_lt (blk_lt (g := gb101) (o := .cells #[.string a0_0, .string a0_1, .slice A0_2 l0_2.length c0_2] 24 (0, 0)) (by (with_reducible repeat (first | refine blk_drewN ?_ _ | refine blk_drew ?_ | refine blk_alloc ?_ _)); exact BK101.out)) : gb101 ≠ gb108)); have n7_ := mz ((by rw [hg]; exact Nat.ne_of_gt (blk_lt (g := gb101) (o := .cells #[.string a0_0, .string a0_1, .slice A0_2 l0_2.length c0_2] 24 (0, 0)) (by (with_reducible repeat (first | refine blk_drewN ?_ _ | refine blk_drew ?_ | refine blk_alloc ?_ _)); exact BK101.out)) : gb108 ≠ gb101)); have n8_ := mz ((by rw [hg]; exact Nat.ne_of_lt (blk_lt (g := gb102) (o := .cells #[.int .i64 a1_0, .string a1_1, .int .i64 a1_2, .int .i64 a1_3, .bool a1_4, .slice A1_5 l1_5.length c1_5, .slice A1_6 l1_6.length c1_6, .bool a1_7] 51 (0, 0)) (by (with_reducible repeat (first | refine blk_drewN ?_ _ | refine blk_drew ?_ | refine blk_alloc ?_ _)); exact BK102.out)) : gb102 ≠ gb108)); have n9_ := mz ((by rw [hg]; exact Nat.ne_of_gt (blk_lt (g := gb102) (o := .cells #[.int .i64 a1_0, .string a1_1, .int .i64 a1_2, .int .i64 a1_3, .bool a1_4, .slice A1_5 l1_5.length c1_5, .slice A1_6 l1_6.length c1_6, .bool a1_7] 51 (0, 0)) (by (with_reducible repeat (first | refine blk_drewN ?_ _ | refine blk_drew ?_ | refine blk_alloc ?_ _)); exact BK102.out)) : gb108 ≠ gb102)); clear BK101; clear BK102; clear HB; have BK101 := n0_; have BK102 := n1_; have HB := n2_; have BK108 := n3_; have GW108 := n4_; have GE108 := n5_; have NB101_108 := n6_; have NB108_101 := n7_; have NB102_108 := n8_; have NB108_102 := n9_; clear n0_ n1_ n2_ n3_ n4_ n5_ n6_ n7_ n8_ n9_; clear hb hbox hg; have hnb17 := NB108_101.out; have hnc17 := NB101_108.out; have hnb18 := NB108_102.out; have hnc18 := NB102_108.out; have hcz19_0 : w16.cell? ⟨gb108, 0, none⟩ = some (.int .i64 0) := (blk_cell BK108.out 0).trans rfl; have hcz19_1 : w16.cell? ⟨gb108, 1, none⟩ = some (.int .i64 0) := (blk_cell BK108.out 1).trans rfl; have hcz19_2 : w16.cell? ⟨gb108, 2, none⟩ = some (.slice none 0 0) := (blk_cell BK108.out 2).trans rfl; have hfz19_0 := blk_frozen BK108.out 0; have hfz19_1 := blk_frozen BK108.out 1; have hfz19_2 := blk_frozen BK108.out 2; have hnb20 := NB102_101.out; have hnc20 := NB101_102.out; have hcz21_0 : w16.cell? ⟨gb102, 0, none⟩ = some (.int .i64 a1_0) := (blk_cell BK102.out 0).trans rfl; have hcz21_1 : w16.cell? ⟨gb102, 1, none⟩ = some (.string a1_1) := (blk_cell BK102.out 1).trans rfl; have hcz21_2 : w16.cell? ⟨gb102, 2, none⟩ = some (.int .i64 a1_2) := (blk_cell BK102.out 2).trans rfl; have hcz21_3 : w16.cell? ⟨gb102, 3, none⟩ = some (.int .i64 a1_3) := (blk_cell BK102.out 3).trans rfl; have hcz21_4 : w16.cell? ⟨gb102, 4, none⟩ = some (.bool a1_4) := (blk_cell BK102.out 4).trans rfl; have hcz21_5 : w16.cell? ⟨gb102, 5, none⟩ = some (.slice A1_5 l1_5.length c1_5) := (blk_cell BK102.out 5).trans rfl; have hcz21_6 : w16.cell? ⟨gb102, 6, none⟩ = some (.slice A1_6 l1_6.length c1_6) := (blk_cell BK102.out 6).trans rfl; have hcz21_7 : w16.cell? ⟨gb102, 7, none⟩ = some (.bool a1_7) := (blk_cell BK102.out 7).trans rfl; have hfz21_0 := blk_frozen BK102.out 0; have hfz21_1 := blk_frozen BK102.out 1; have hfz21_2 := blk_frozen BK102.out 2; have hfz21_3 := blk_frozen BK102.out 3; have hfz21_4 := blk_frozen BK102.out 4; have hfz21_5 := blk_frozen BK102.out 5; have hfz21_6 := blk_frozen BK102.out 6; have hfz21_7 := blk_frozen BK102.out 7))
                    go_ret
                    exact ⟨by first | rfl | (simp [errW_none, errW_some] <;> rfl) | (simp [*, errW_none, errW_some] <;> rfl), by repeat (first | (with_reducible first | exact HB.out | apply below_alloc | apply pw_below_drewN | apply below_drew1 | refine below_set ?_ GE101.out | refine below_set ?_ GE102.out | refine below_set ?_ GE108.out) | exact HB.out)⟩
                  · rw [if_neg c15] at H
                    have c15b0 : (((rd_T67 y103 x13_1).f1) == a1_3) = false := beq_eq_false_iff_ne.mpr c15
                    have c15b1 : (((rd_T67 y103 x13_1).f1) != a1_3) = true := bne_iff_ne.mpr c15
                    have H' := mz H
                    clear H
                    have p107 : 0 ≤ (x13_1 : Int) := of_decide_eq_true (by first | (with_reducible assumption) | assumption)
                    have q107 : x13_1 < (y103.length : Int) := of_decide_eq_true (by first | (with_reducible assumption) | assumption)
                    obtain ⟨ad107, A107_2, c107_2, e107, hx107_0, hx107_1, hx107_2, hl107_2, hi107_2⟩ := at_T67 HR106.out x13_1 p107 q107
                    cases e107
                    replace hx107_0 := bc_ HB.out hx107_0
                    replace hx107_1 := bc_ HB.out hx107_1
                    replace hx107_2 := bc_ HB.out hx107_2
                    have HR107_2 := mz hi107_2
                    have HC107_2 := mz hl107_2
                    clear hi107_2 hl107_2
                    replace p107 := eq_true p107
                    replace q107 := eq_true q107
                    go_wp2_with (first | ((with_reducible refine gate_dst (N := 6) rfl ?_); refine box_event ?hg (N := 6) ?hd (cs := #[.int .i64 0, .int .i64 0, .slice none 0 0]) (t := 67) ?hr ?_; (case hd => rfl); (case hg => rfl); (case hr => first | (go_simp; done) | (go_simp; rfl)); intro gb108 hg w22 hbox hb; have n0_ := mz (blk_below (g := gb101) (o := .cells #[.string a0_0, .string a0_1, .slice A0_2 l0_2.length c0_2] 24 (0, 0)) (by (with_reducible repeat (first | refine blk_drewN ?_ _ | refine blk_drew ?_ | refine blk_alloc ?_ _)); exact BK101.out) hb); have n1_ := mz (blk_below (g := gb102) (o := .cells #[.int .i64 a1_0, .string a1_1, .int .i64 a1_2, .int .i64 a1_3, .bool a1_4, .slice A1_5 l1_5.length c1_5, .slice A1_6 l1_6.length c1_6, .bool a1_7] 51 (0, 0)) (by (with_reducible repeat (first | refine blk_drewN ?_ _ | refine blk_drew ?_ | refine blk_alloc ?_ _)); exact BK102.out) hb); have n2_ := mz (below_step (by repeat (first | (with_reducible first | exact HB.out | apply below_alloc | apply pw_below_drewN | apply below_drew1 | refine below_set ?_ GE101.out | refine below_set ?_ GE102.out) | exact HB.out)) hb); have n3_ := mz (hbox); have n4_ := mz ((by rw [hg]; exact (below_size (by repeat (first | (with_reducible first | exact HB.out | apply below_alloc | apply pw_below_drewN | apply below_drew1 | refine below_set ?_ GE101.out | refine below_set ?_ GE102.out) | exact HB.out))) : w.heap.size ≤ gb108)); have n5_ := mz ((by rw [hg]; exact (below_size (by repeat (first | (with_reducible first | exact HB.out | apply below_alloc | apply pw_below_drewN | apply below_drew1 | refine below_set ?_ GE101.out | refine below_set ?_ GE102.out) | exact HB.out))) : w.heap.size ≤ gb108)); have n6_ := mz ((by rw [hg]; exact Nat.ne_of_lt (blk_lt (g := gb101) (o := .cells #[.string a0_0, .string a0_1, .slice A0_2 l0_2.length c0_2] 24 (0, 0)) (by (with_reducible repeat (first | refine blk_drewN ?_ _ | refine blk_drew ?_ | refine blk_alloc ?_ _)); exact BK101.out)) : gb101 ≠ gb108)); have n7_ := mz ((by rw [hg]; exact Nat.ne_of_gt (blk_lt (g := gb101) (o := .cells #[.string a0_0, .string a0_1, .slice A0_2 l0_2.length c0_2] 24 (0, 0)) (by (with_reducible repeat (first | refine blk_drewN ?_ _ | refine blk_drew ?_ | refine blk_alloc ?_ _)); exact BK101.out)) : gb108 ≠ gb101)); have n8_ := mz ((by rw [hg]; exact Nat.ne_of_lt (blk_lt (g := gb102) (o := .cells #[.int .i64 a1_0, .string a1_1, .int .i64 a1_2, .int .i64 a1_3, .bool a1_4, .slice A1_5 l1_5.length c1_5, .slice A1_6 l1_6.length c1_6, .bool a1_7] 51 (0, 0)) (by (with_reducible repeat (first | refine blk_drewN ?_ _ | refine blk_drew ?_ | refine blk_alloc ?_ _)); exact BK102.out)) : gb102 ≠ gb108)); have n9_ := mz ((by rw [hg]; exact Nat.ne_of_gt (blk_lt (g := gb102) (o := .cells #[.int .i64 a1_0, .string a1_1, .int .i64 a1_2, .int .i64 a1_3, .bool a1_4, .slice A1_5 l1_5.length c1_5, .slice A1_6 l1_6.length c1_6, .bool a1_7] 51 (0, 0)) (by (with_reducible repeat (first | refine blk_drewN ?_ _ | refine blk_drew ?_ | refine blk_alloc ?_ _)); exact BK102.out)) : gb108 ≠ gb102)); clear BK101; clear BK102; clear HB; have BK101 := n0_; have BK102 := n1_; have HB := n2_; have BK108 := n3_; have GW108 := n4_; have GE108 := n5_; have NB101_108 := n6_; have NB108_101 := n7_; have NB102_108 := n8_; have NB108_102 := n9_; clear n0_ n1_ n2_ n3_ n4_ n5_ n6_ n7_ n8_ n9_; clear hb hbox hg; have hnb23 := NB108_101.out; have hnc23 := NB101_108.out; have hnb24 := NB108_102.out; have hnc24 := NB102_108.out; have hcz25_0 : w22.cell? ⟨gb108, 0, none⟩ = some (.int .i64 0) := (blk_cell BK108.out 0).trans rfl; have hcz25_1 : w22.cell? ⟨gb108, 1, none⟩ = some (.int .i64 0) := (blk_cell BK108.out 1).trans rfl; have hcz25_2 : w22.cell? ⟨gb108, 2, none⟩ = some (.slice none 0 0) := (blk_cell BK108.out 2).trans rfl; have hfz25_0 := blk_frozen BK108.out 0; have hfz25_1 := blk_frozen BK108.out 1; have hfz25_2 := blk_frozen BK108.out 2; have hnb26 := NB102_101.out; have hnc26 := NB101_102.out; have hcz27_0 : w22.cell? ⟨gb102, 0, none⟩ = some (.int .i64 a1_0) := (blk_cell BK102.out 0).trans rfl; have hcz27_1 : w22.cell? ⟨gb102, 1, none⟩ = some (.string a1_1) := (blk_cell BK102.out 1).trans rfl; have hcz27_2 : w22.cell? ⟨gb102, 2, none⟩ = some (.int .i64 a1_2) := (blk_cell BK102.out 2).trans rfl; have hcz27_3 : w22.cell? ⟨gb102, 3, none⟩ = some (.int .i64 a1_3) := (blk_cell BK102.out 3).trans rfl; have hcz27_4 : w22.cell? ⟨gb102, 4, none⟩ = some (.bool a1_4) := (blk_cell BK102.out 4).trans rfl; have hcz27_5 : w22.cell? ⟨gb102, 5, none⟩ = some (.slice A1_5 l1_5.length c1_5) := (blk_cell BK102.out 5).trans rfl; have hcz27_6 : w22.cell? ⟨gb102, 6, none⟩ = some (.slice A1_6 l1_6.length c1_6) := (blk_cell BK102.out 6).trans rfl; have hcz27_7 : w22.cell? ⟨gb102, 7, none⟩ = some (.bool a1_7) := (blk_cell BK102.out 7).trans rfl; have hfz27_0 := blk_frozen BK102.out 0; have hfz27_1 := blk_frozen BK102.out 1; have hfz27_2 := blk_frozen BK102.out 2; have hfz27_3 := blk_frozen BK102.out 3; have hfz27_4 := blk_frozen BK102.out 4; have hfz27_5 := blk_frozen BK102.out 5; have hfz27_6 := blk_frozen BK102.out 6; have hfz27_7 := blk_frozen BK102.out 7))
                    go_roundg k1
                    case measure => have := HK1.out; omega
                    case rel => exact ⟨(wrap64 (x13_1 + 1)), (by first | rfl | (simp; done) | (simp [*]; done)), H', ⟨by have := HK1.out; omega⟩, ⟨by (with_reducible repeat (first | refine blk_drewN ?_ _ | refine blk_drew ?_ | refine blk_alloc ?_ _)); refine blk_far ?_ NB101_108.out _; (with_reducible repeat (first | refine blk_drewN ?_ _ | refine blk_drew ?_ | refine blk_alloc ?_ _)); refine blk_far ?_ NB101_108.out _; (with_reducible repeat (first | refine blk_drewN ?_ _ | refine blk_drew ?_ | refine blk_alloc ?_ _)); refine blk_far ?_ NB101_108.out _; (with_reducible repeat (first | refine blk_drewN ?_ _ | refine blk_drew ?_ | refine blk_alloc ?_ _)); exact BK101.out⟩, ⟨by (with_reducible repeat (first | refine blk_drewN ?_ _ | refine blk_drew ?_ | refine blk_alloc ?_ _)); refine blk_far ?_ NB102_108.out _; (with_reducible repeat (first | refine blk_drewN ?_ _ | refine blk_drew ?_ | refine blk_alloc ?_ _)); refine blk_far ?_ NB102_108.out _; (with_reducible repeat (first | refine blk_drewN ?_ _ | refine blk_drew ?_ | refine blk_alloc ?_ _)); refine blk_far ?_ NB102_108.out _; (with_reducible repeat (first | refine blk_drewN ?_ _ | refine blk_drew ?_ | refine blk_alloc ?_ _)); exact BK102.out⟩, ⟨by repeat (first | (with_reducible first | exact HB.out | apply below_alloc | apply pw_below_drewN | apply below_drew1 | refine below_set ?_ GE101.out | refine below_set ?_ GE102.out | refine below_set ?_ GE108.out) | exact HB.out)⟩⟩
                · rw [if_neg c14] at H
                  have c14b0 : (((rd_T67 y103 x13_1).f0) == a1_0) = false := beq_eq_false_iff_ne.mpr c14
                  have c14b1 : (((rd_T67 y103 x13_1).f0) != a1_0) = true := bne_iff_ne.mpr c14
                  have H' := mz H
                  clear H
                  have p107 : 0 ≤ (x13_1 : Int) := of_decide_eq_true (by first | (with_reducible assumption) | assumption)
                  have q107 : x13_1 < (y103.length : Int) := of_decide_eq_true (by first | (with_reducible assumption) | assumption)
                  obtain ⟨ad107, A107_2, c107_2, e107, hx107_0, hx107_1, hx107_2, hl107_2, hi107_2⟩ := at_T67 HR106.out x13_1 p107 q107
                  cases e107
                  replace hx107_0 := bc_ HB.out hx107_0
                  replace hx107_1 := bc_ HB.out hx107_1
                  replace hx107_2 := bc_ HB.out hx107_2
                  have HR107_2 := mz hi107_2
                  have HC107_2 := mz hl107_2
                  clear hi107_2 hl107_2
                  replace p107 := eq_true p107
                  replace q107 := eq_true q107
                  go_wp2_with (first | ((with_reducible refine gate_dst (N := 6) rfl ?_); refine box_event ?hg (N := 6) ?hd (cs := #[.int .i64 0, .int .i64 0, .slice none 0 0]) (t := 67) ?hr ?_; (case hd => rfl); (case hg => rfl); (case hr => first | (go_simp; done) | (go_simp; rfl)); intro gb108 hg w28 hbox hb; have n0_ := mz (blk_below (g := gb101) (o := .cells #[.string a0_0, .string a0_1, .slice A0_2 l0_2.length c0_2] 24 (0, 0)) (by (with_reducible repeat (first | refine blk_drewN ?_ _ | refine blk_drew ?_ | refine blk_alloc ?_ _)); exact BK101.out) hb); have n1_ := mz (blk_below (g := gb102) (o := .cells #[.int .i64 a1_0, .string a1_1, .int .i64 a1_2, .int .i64 a1_3, .bool a1_4, .slice A1_5 l1_5.length c1_5, .slice A1_6 l1_6.length c1_6, .bool a1_7] 51 (0, 0)) (by (with_reducible repeat (first | refine blk_drewN ?_ _ | refine blk_drew ?_ | refine blk_alloc ?_ _)); exact BK102.out) hb); have n2_ := mz (below_step (by repeat (first | (with_reducible first | exact HB.out | apply below_alloc | apply pw_below_drewN | apply below_drew1 | refine below_set ?_ GE101.out | refine below_set ?_ GE102.out) | exact HB.out)) hb); have n3_ := mz (hbox); have n4_ := mz ((by rw [hg]; exact (below_size (by repeat (first | (with_reducible first | exact HB.out | apply below_alloc | apply pw_below_drewN | apply below_drew1 | refine below_set ?_ GE101.out | refine below_set ?_ GE102.out) | exact HB.out))) : w.heap.size ≤ gb108)); have n5_ := mz ((by rw [hg]; exact (below_size (by repeat (first | (with_reducible first | exact HB.out | apply below_alloc | apply pw_below_drewN | apply below_drew1 | refine below_set ?_ GE101.out | refine below_set ?_ GE102.out) | exact HB.out))) : w.heap.size ≤ gb108)); have n6_ := mz ((by rw [hg]; exact Nat.ne_of_lt (blk_lt (g := gb101) (o := .cells #[.string a0_0, .string a0_1, .slice A0_2 l0_2.length c0_2] 24 (0, 0)) (by (with_reducible repeat (first | refine blk_drewN ?_ _ | refine blk_drew ?_ | refine blk_alloc ?_ _)); exact BK101.out)) : gb101 ≠ gb108)); have n7_ := mz ((by rw [hg]; exact Nat.ne_of_gt (blk_lt (g := gb101) (o := .cells #[.string a0_0, .string a0_1, .slice A0_2 l0_2.length c0_2] 24 (0, 0)) (by (with_reducible repeat (first | refine blk_drewN ?_ _ | refine blk_drew ?_ | refine blk_alloc ?_ _)); exact BK101.out)) : gb108 ≠ gb101)); have n8_ := mz ((by rw [hg]; exact Nat.ne_of_lt (blk_lt (g := gb102) (o := .cells #[.int .i64 a1_0, .string a1_1, .int .i64 a1_2, .int .i64 a1_3, .bool a1_4, .slice A1_5 l1_5.length c1_5, .slice A1_6 l1_6.length c1_6, .bool a1_7] 51 (0, 0)) (by (with_reducible repeat (first | refine blk_drewN ?_ _ | refine blk_drew ?_ | refine blk_alloc ?_ _)); exact BK102.out)) : gb102 ≠ gb108)); have n9_ := mz ((by rw [hg]; exact Nat.ne_of_gt (blk_lt (g := gb102) (o := .cells #[.int .i64 a1_0, .string a1_1, .int .i64 a1_2, .int .i64 a1_3, .bool a1_4, .slice A1_5 l1_5.length c1_5, .slice A1_6 l1_6.length c1_6, .bool a1_7] 51 (0, 0)) (by (with_reducible repeat (first | refine blk_drewN ?_ _ | refine blk_drew ?_ | refine blk_alloc ?_ _)); exact BK102.out)) : gb108 ≠ gb102)); clear BK101; clear BK102; clear HB; have BK101 := n0_; have BK102 := n1_; have HB := n2_; have BK108 := n3_; have GW108 := n4_; have GE108 := n5_; have NB101_108 := n6_; have NB108_101 := n7_; have NB102_108 := n8_; have NB108_102 := n9_; clear n0_ n1_ n2_ n3_ n4_ n5_ n6_ n7_ n8_ n9_; clear hb hbox hg; have hnb29 := NB108_101.out; have hnc29 := NB101_108.out; have hnb30 := NB108_102.out; have hnc30 := NB102_108.out; have hcz31_0 : w28.cell? ⟨gb108, 0, none⟩ = some (.int .i64 0) := (blk_cell BK108.out 0).trans rfl; have hcz31_1 : w28.cell? ⟨gb108, 1, none⟩ = some (.int .i64 0) := (blk_cell BK108.out 1).trans rfl; have hcz31_2 : w28.cell? ⟨gb108, 2, none⟩ = some (.slice none 0 0) := (blk_cell BK108.out 2).trans rfl; have hfz31_0 := blk_frozen BK108.out 0; have hfz31_1 := blk_frozen BK108.out 1; have hfz31_2 := blk_frozen BK108.out 2; have hnb32 := NB102_101.out; have hnc32 := NB101_102.out; have hcz33_0 : w28.cell? ⟨gb102, 0, none⟩ = some (.int .i64 a1_0) := (blk_cell BK102.out 0).trans rfl; have hcz33_1 : w28.cell? ⟨gb102, 1, none⟩ = some (.string a1_1) := (blk_cell BK102.out 1).trans rfl; have hcz33_2 : w28.cell? ⟨gb102, 2, none⟩ = some (.int .i64 a1_2) := (blk_cell BK102.out 2).trans rfl; have hcz33_3 : w28.cell? ⟨gb102, 3, none⟩ = some (.int .i64 a1_3) := (blk_cell BK102.out 3).trans rfl; have hcz33_4 : w28.cell? ⟨gb102, 4, none⟩ = some (.bool a1_4) := (blk_cell BK102.out 4).trans rfl; have hcz33_5 : w28.cell? ⟨gb102, 5, none⟩ = some (.slice A1_5 l1_5.length c1_5) := (blk_cell BK102.out 5).trans rfl; have hcz33_6 : w28.cell? ⟨gb102, 6, none⟩ = some (.slice A1_6 l1_6.length c1_6) := (blk_cell BK102.out 6).trans rfl; have hcz33_7 : w28.cell? ⟨gb102, 7, none⟩ = some (.bool a1_7) := (blk_cell BK102.out 7).trans rfl; have hfz33_0 := blk_frozen BK102.out 0; have hfz33_1 := blk_frozen BK102.out 1; have hfz33_2 := blk_frozen BK102.out 2; have hfz33_3 := blk_frozen BK102.out 3; have hfz33_4 := blk_frozen BK102.out 4; have hfz33_5 := blk_frozen BK102.out 5; have hfz33_6 := blk_frozen BK102.out 6; have hfz33_7 := blk_frozen BK102.out 7))
                  go_roundg k1
                  case measure => have := HK1.out; omega
                  case rel => exact ⟨(wrap64 (x13_1 + 1)), (by first | rfl | (simp; done) | (simp [*]; done)), H', ⟨by have := HK1.out; omega⟩, ⟨by (with_reducible repeat (first | refine blk_drewN ?_ _ | refine blk_drew ?_ | refine blk_alloc ?_ _)); refine blk_far ?_ NB101_108.out _; (with_reducible repeat (first | refine blk_drewN ?_ _ | refine blk_drew ?_ | refine blk_alloc ?_ _)); refine blk_far ?_ NB101_108.out _; (with_reducible repeat (first | refine blk_drewN ?_ _ | refine blk_drew ?_ | refine blk_alloc ?_ _)); refine blk_far ?_ NB101_108.out _; (with_reducible repeat (first | refine blk_drewN ?_ _ | refine blk_drew ?_ | refine blk_alloc ?_ _)); exact BK101.out⟩, ⟨by (with_reducible repeat (first | refine blk_drewN ?_ _ | refine blk_drew ?_ | refine blk_alloc ?_ _)); refine blk_far ?_ NB102_108.out _; (with_reducible repeat (first | refine blk_drewN ?_ _ | refine blk_drew ?_ | refine blk_alloc ?_ _)); refine blk_far ?_ NB102_108.out _; (with_reducible repeat (first | refine blk_drewN ?_ _ | refine blk_drew ?_ | refine blk_alloc ?_ _)); refine blk_far ?_ NB102_108.out _; (with_reducible repeat (first | refine blk_drewN ?_ _ | refine blk_drew ?_ | refine blk_alloc ?_ _)); exact BK102.out⟩, ⟨by repeat (first | (with_reducible first | exact HB.out | apply below_alloc | apply pw_below_drewN | apply below_drew1 | refine below_set ?_ GE101.out | refine below_set ?_ GE102.out | refine below_set ?_ GE108.out) | exact HB.out)⟩⟩
              · rw [if_neg c13] at H
                exact absurd H (by simp)
            · rw [if_neg c12] at H
              exact absurd H (by simp)
          · rw [if_neg c11] at H
            have c11b0 : decide (x13_1 < (y103.length : Int)) = false := decide_eq_false c11
            clear c11
            obtain rfl := Option.some.inj H
            go_wp2
            go_ret
            exact ⟨by first | rfl | (simp [errW_none, errW_some] <;> rfl) | (simp [*, errW_none, errW_some] <;> rfl), by repeat (first | (with_reducible first | exact HB.out | apply below_alloc | apply pw_below_drewN | apply below_drew1 | refine below_set ?_ GE101.out | refine below_set ?_ GE102.out) | exact HB.out)⟩
    · rw [if_neg c4] at H
      exact absurd H (by simp)
  · rw [if_neg c3] at H
    exact absurd H (by simp)
end
def sizedC (l : List Client) : Bool := l.all fun y => decide (y.f1.size ≤ maxLen) && sizedP y.f5 && sizedP y.f6
theorem sizedC_of {l : List Client} (h : sizedC l = true) : ∀ y ∈ l, y.f1.size ≤ maxLen ∧ sizedP y.f5 = true ∧ sizedP y.f6 = true := by
  intro y hy
  simp only [sizedC, List.all_eq_true, Bool.and_eq_true, decide_eq_true_eq] at h
  exact ⟨(h y hy).1.1, (h y hy).1.2, (h y hy).2⟩
theorem rd_client (l : List Client) (i : Nat) (h : i < l.length) : rd_T51 l (i : Int) = l[i] := by
  simp [rd_T51, List.getD_eq_getElem?_getD, h]
def cliFrom (a : ByteArray) (l : List Entry) : List Client → Nat → Bool
  | [], _ => true
  | y :: r, i => ((y.f0 == (i : Int)) && clientB y && isAtV y a l) && cliFrom a l r (i + 1)
def goodM (a t : ByteArray) (l : List Entry) (cs : List Client) : Bool := goodB a t l && decide (1 ≤ cs.length) && decide (cs.length ≤ 4) && cliFrom a l cs 0
theorem runB_text (l : List Entry) (ho : ∀ e ∈ l, opB e.f2 = true) : ∀ a : ByteArray, textB a = true → (runB l a).2 = true → textB (runB l a).1 = true := by
  induction l with
  | nil => intro a ha _; exact ha
  | cons e l ih =>
    intro a ha h
    have hr : runB (e :: l) a = if (applyV e.f2 a).2 = true then runB l (applyV e.f2 a).1 else (⟨#[]⟩, false) := rfl
    rw [hr] at h ⊢
    by_cases q : (applyV e.f2 a).2 = true
    · rw [if_pos q] at h ⊢
      refine ih (fun x hx => ho x (List.mem_cons_of_mem _ hx)) _ ?_ h
      have oe := ho e List.mem_cons_self
      have hav : applyV e.f2 a = ansB (appB e.f2 a ⟨#[]⟩) := by simp [applyV, oe, ha]
      rw [hav] at q ⊢
      unfold ansB at q ⊢
      by_cases q2 : (appB e.f2 a ⟨#[]⟩).2 = true
      · rw [if_pos q2]; exact appB_text oe ha q2
      · rw [if_neg q2] at q; simp at q
    · rw [if_neg q] at h; simp at h
theorem texts_good {a t : ByteArray} {l : List Entry} (h : goodB a t l = true) : ∃ TS, textsB l a [a] = (TS, true) ∧ TS.length = l.length + 1 ∧
    ∀ v : Int, 0 ≤ v → v ≤ (l.length : Int) → (textB (runB (l.take v.toNat) a).1 = true ∧ (runB (l.take v.toNat) a).2 = true) ∧ rdOf ByteArray.empty TS v = (runB (l.take v.toNat) a).1 := by
  obtain ⟨h1, h2, h3, h4, h5, h6⟩ := goodB_of h
  have ho : ∀ e ∈ l, opB e.f2 = true := fun e he => (entryB_of (h6 e he)).2.2.2.2
  obtain ⟨t1, t2⟩ := texts_run l a [a] ho h1
  rw [h4] at t1
  obtain ⟨ts, e1, e2, e3⟩ := t2 t1
  refine ⟨(textsB l a [a]).1, by rw [← t1], by rw [e1]; simp [e2], ?_⟩
  intro v h0 hv
  obtain ⟨n, rfl⟩ : ∃ n : Nat, v = (n : Int) := ⟨v.toNat, by omega⟩
  rw [Int.toNat_natCast]
  have hj := e3 n (by omega)
  refine ⟨⟨runB_text _ (fun e he => ho e (List.mem_of_mem_take he)) a h1 hj.1, hj.1⟩, ?_⟩
  have hh := hj.2
  rw [← List.singleton_append, ← e1] at hh
  have hlt : n < (textsB l a [a]).1.length := by rw [e1]; simp [e2]; omega
  rw [List.getElem?_eq_getElem hlt] at hh
  rw [rdOf_get _ _ _ hlt]
  simpa using hh
theorem appB_ok {op : List Part} {u : ByteArray} (ho : opB op = true) (hu : textB u = true) {r : ByteArray} (h : applyV op u = (r, true)) : appB op u ⟨#[]⟩ = (r, true) := by
  have hav : applyV op u = ansB (appB op u ⟨#[]⟩) := by simp [applyV, ho, hu]
  rw [hav] at h
  unfold ansB at h
  by_cases q : (appB op u ⟨#[]⟩).2 = true
  · rw [if_pos q] at h
    have := (Prod.mk.inj h).1
    rw [← this, ← q]
  · rw [if_neg q] at h; simp at h
theorem applyV_text {op : List Part} {u r : ByteArray} (ho : opB op = true) (hu : textB u = true) (h : applyV op u = (r, true)) : textB r = true := by
  have := appB_ok ho hu h
  have h2 := appB_text ho hu (by rw [this])
  rwa [this] at h2
def inB (i q : Int) (l : List Entry) : Bool := l.any fun e => decide (e.f0 = i) && decide (e.f1 = q)
def ownB (i q : Int) (b : Bool) (l : List Entry) : Bool := l.all fun e => !(e.f0 == i && !(b && e.f1 == q))
theorem sentV_own (i q : Int) (b : Bool) (l : List Entry) : ∀ s : Bool, sentV i q b l s = if ownB i q b l = true then some (s || (b && inB i q l)) else none := by
  induction l with
  | nil => intro s; simp [sentV, ownB, inB]
  | cons e l ih =>
    intro s
    rw [sentV]
    by_cases h : e.f0 = i
    · rw [if_pos h]
      by_cases h2 : b = true ∧ e.f1 = q
      · rw [if_pos h2, ih]
        have e1 : ownB i q b (e :: l) = ownB i q b l := by simp [ownB, h2]
        have e2 : inB i q (e :: l) = true := by simp [inB, h, h2]
        rw [e1, e2]
        simp [h2.1]
      · rw [if_neg h2]
        have e1 : ownB i q b (e :: l) = false := by
          simp only [ownB, List.all_cons, Bool.and_eq_false_iff]
          left
          cases b <;> simp_all
        rw [e1]; simp
    · rw [if_neg h, ih]
      have e1 : ownB i q b (e :: l) = ownB i q b l := by simp [ownB, h]
      have e2 : inB i q (e :: l) = inB i q l := by simp [inB, h]
      rw [e1, e2]

theorem specLast_loop (a t : ByteArray) (l : List Entry) (c : Int) (hl : l.length ≤ 60) (hok : okFrom l l 0 = true) (d : Nat) : ∀ (i : Nat) (m : Int), i + d = l.length → m = lastB c (l.take i) 0 →
    Ev (fun k => spec_l15Last.l0 k c m l (l.length : Int) (i : Int)) (lastB c l 0) := by
  induction d with
  | zero =>
    intro i m h hm
    refine Ev.succ ?_
    simp only [spec_l15Last.l0, if_neg (show ¬ ((i : Int) < (l.length : Int)) by omega)]
    rw [List.take_of_length_le (by omega)] at hm
    rw [hm]
    exact Ev.now _
  | succ d ih =>
    intro i m h hm
    have hi : i < l.length := by omega
    have hq := okFrom_mem l l 0 hok i hi
    rw [Nat.zero_add] at hq
    simp only [okAt, Bool.and_eq_true, Bool.not_eq_true'] at hq
    have hs : lastB c (l.take (i + 1)) 0 = if l[i].f0 = c then mx (lastB c (l.take i) 0) l[i].f1 else lastB c (l.take i) 0 := by
      rw [List.take_succ_eq_append_getElem hi, lastB_append, lastB_cons]; rfl
    refine Ev.succ ?_
    simp only [spec_l15Last.l0, if_pos (show ((i : Int) < (l.length : Int)) by omega), if_pos (show (0 : Int) ≤ i by omega), rd_entry l i hi, w64 (show -9223372036854775808 ≤ (i : Int) + 1 by omega) (by omega)]
    by_cases q : l[i].f0 = c
    · simp only [if_pos q]
      refine ih (i + 1) _ (by omega) ?_
      rw [hs, if_pos q]
      have h2 := hq.2
      rw [clash_last l i l[i] (entryB_of hq.1).2.2.1, q] at h2
      have h3 : ¬ l[i].f1 ≤ lastB c (l.take i) 0 := of_decide_eq_false h2
      unfold mx
      split <;> omega
    · simp only [if_neg q]
      refine ih (i + 1) _ (by omega) ?_
      rw [hs, if_neg q]
      exact hm
theorem specLast_ev (a t : ByteArray) (l : List Entry) (c : Int) (hl : l.length ≤ 60) (hok : okFrom l l 0 = true) : Ev (fun k => spec_l15Last.f k a t l c) (lastB c l 0) := by
  have := specLast_loop a t l c hl hok l.length 0 0 (by omega) rfl
  simpa [spec_l15Last.f] using this

theorem inLog_loop (l : List Entry) (y : Client) (hl : l.length ≤ 9223372036854775807) (d : Nat) : ∀ i : Nat, i + d = l.length →
    Ev (fun k => spec_l16InLog.l0 k l (l.length : Int) (i : Int) y.f0 y.f1 y.f2 y.f3 y.f4 y.f5 y.f6 y.f7) (inB y.f0 y.f3 (l.drop i)) := by
  induction d with
  | zero =>
    intro i h
    refine Ev.succ ?_
    simp only [spec_l16InLog.l0, if_neg (show ¬ ((i : Int) < (l.length : Int)) by omega)]
    rw [List.drop_eq_nil_of_le (by omega)]
    exact Ev.now _
  | succ d ih =>
    intro i h
    have hi : i < l.length := by omega
    refine Ev.succ ?_
    simp only [spec_l16InLog.l0, if_pos (show ((i : Int) < (l.length : Int)) by omega), if_pos (show (0 : Int) ≤ i by omega), rd_entry l i hi, w64 (show -9223372036854775808 ≤ (i : Int) + 1 by omega) (by omega)]
    rw [List.drop_eq_getElem_cons hi, show inB y.f0 y.f3 (l[i] :: l.drop (i + 1)) = ((decide (l[i].f0 = y.f0) && decide (l[i].f1 = y.f3)) || inB y.f0 y.f3 (l.drop (i + 1))) from rfl]
    by_cases q : l[i].f0 = y.f0
    · by_cases q2 : l[i].f1 = y.f3
      · simp only [if_pos q, if_pos q2, decide_eq_true q, decide_eq_true q2, Bool.and_self, Bool.true_or]; exact Ev.now _
      · simp only [if_pos q, if_neg q2, decide_eq_false q2, Bool.and_false, Bool.false_or]; exact ih (i + 1) (by omega)
    · simp only [if_neg q, decide_eq_false q, Bool.false_and, Bool.false_or]; exact ih (i + 1) (by omega)
theorem inLog_ev (a t : ByteArray) (l : List Entry) (y : Client) (hl : l.length ≤ 9223372036854775807) (h0 : 0 ≤ y.f2) (h1 : y.f2 ≤ (l.length : Int)) :
    Ev (fun k => spec_l16InLog.f k a t l y.f0 y.f1 y.f2 y.f3 y.f4 y.f5 y.f6 y.f7) (inB y.f0 y.f3 (l.drop y.f2.toNat)) := by
  unfold spec_l16InLog.f
  simp only [if_pos h0, if_pos h1, Option.bind_some]
  have := inLog_loop (l.drop y.f2.toNat) y (by simp; omega) (l.drop y.f2.toNat).length 0 (by omega)
  simpa using this
theorem isAtV_spec {y : Client} {a : ByteArray} {l : List Entry} (h0 : 0 ≤ y.f2) (hv : ¬ (l.length : Int) < y.f2) (hb : (runB (l.take y.f2.toNat) a).2 = true) : isAtV y a l =
    (ownB y.f0 y.f3 y.f4 (l.drop y.f2.toNat) && !(decide (y.f3 < lastB y.f0 l 0) || (y.f4 && !inB y.f0 y.f3 (l.drop y.f2.toNat) && (lastB y.f0 l 0 == y.f3))) &&
      ((afterV y.f7 y.f6 (afterV y.f4 y.f5 ((runB (l.take y.f2.toNat) a).1, true))).2 && decide ((afterV y.f7 y.f6 (afterV y.f4 y.f5 ((runB (l.take y.f2.toNat) a).1, true))).1 = y.f1))) := by
  have e : ((runB (l.take y.f2.toNat) a).1, true) = runB (l.take y.f2.toNat) a := by rw [← hb]
  rw [e]
  obtain ⟨i, t, v, q, b, s5, s6, d⟩ := y
  simp only at h0 hv ⊢
  obtain ⟨n, rfl⟩ : ∃ n : Nat, v = (n : Int) := ⟨v.toNat, by omega⟩
  rw [Int.toNat_natCast]
  have hs := sentV_own i q b (l.drop n) false
  cases ho : ownB i q b (l.drop n) with
  | false =>
    rw [ho] at hs
    rw [isAtV_none (by omega) (by simpa using hs)]
    simp
  | true =>
    rw [ho] at hs
    rw [isAtV_some (sn := b && inB i q (l.drop n)) (by omega) (by simpa using hs)]
    cases b <;> cases inB i q (l.drop n) <;> simp
set_option maxHeartbeats 8000000 in
set_option maxRecDepth 100000 in
theorem specMeeting_walk (a t : ByteArray) (A : Option Addr) (c : Nat) (l : List Entry) (A3 : Option Addr) (c3 : Nat) (cs : List Client) (w : World) (hr : Kd.C k67 w A l.length l) (hc : l.length ≤ c) (hs : sizedL l = true) (ha : a.size ≤ maxLen) (hr3 : Kd.C k51 w A3 cs.length cs) (hc3 : cs.length ≤ c3) (hs3 : sizedC cs = true) :
    Calls Try.prog 12 #[.agg #[.string a, .string t, .slice A l.length c, .slice A3 cs.length c3]] w fun e w' => e = .returned (.bool (goodM a t l cs)) ∧ Below w.heap.size w w' := by
  have HR := mz hr
  have HC := mz hc
  have HS := mz hs
  have HA := mz ha
  have HR3 := mz hr3
  have HC3 := mz hc3
  have HS3 := mz hs3
  have hl3 : cs.length ≤ 9223372036854775807 := hr3.2.1
  have HL3 := mz hl3
  have hl1 : l.length ≤ 9223372036854775807 := hr.2.1
  have HL1 := mz hl1
  obtain ⟨K0, hK0⟩ := Ev.rounds (specGoodServer_ev a t l ha hs)
  have HK0 := mz hK0
  clear hr hc hs ha hr3 hc3 hs3 hl3 hl1 hK0
  cases hg : goodB a t l with
  | false =>
    have hres : goodM a t l cs = false := by simp [goodM, hg]
    rw [hres]
    have HK := HK0.out
    rw [hg] at HK
    clear HK0
    have HK0 := mz HK
    clear hres hg HK
    go_enter Try.func12, Try.ntmps12
    go_wp2_with ((with_reducible refine gate_dst (N := 1) rfl ?_); refine bx 1 #[.string a, .string t, .slice A l.length c, .slice A3 cs.length c3] 27 ?_; intro gm hgm w1 hbox hb1; have HB1 := mz hb1; have BM := mz hbox; obtain ⟨x0, x1, x2, x3⟩ := cells4 hbox; clear hgm hbox hb1)
    refine (spec_GoodServer.calls K0 a t A c l false w1 (Kd.C_below HR.out HB1.out) HC.out HK0.out).mono ?_
    rintro e w2 ⟨rfl, hb2⟩
    have HB2 := mz (below_step HB1.out hb2)
    have BM2 := mz (blk_below BM.out hb2)
    clear x0 x1 x2 x3 hb2
    obtain ⟨x0, x1, x2, x3⟩ := cells4 BM2.out
    go_wp2_with fail
    go_ret
    exact ⟨rfl, HB2.out⟩
  | true =>
    have HG := mz hg
    have HK := HK0.out
    rw [hg] at HK
    clear HK0
    have HK0 := mz HK
    clear HK hg
    cases hn : (decide (1 ≤ (cs.length : Int)) && decide ((cs.length : Int) ≤ 4)) with
    | false =>
      have hres : goodM a t l cs = false := by unfold goodM; rw [HG.out, Bool.true_and, show (decide (1 ≤ cs.length) && decide (cs.length ≤ 4)) = false by rw [← hn]; congr 1 <;> (apply decide_eq_decide.2; omega), Bool.false_and]
      rw [hres]
      have HN := mz hn
      clear hres hn
      go_enter Try.func12, Try.ntmps12
      go_wp2_with ((with_reducible refine gate_dst (N := 1) rfl ?_); refine bx 1 #[.string a, .string t, .slice A l.length c, .slice A3 cs.length c3] 27 ?_; intro gm hgm w1 hbox hb1; have HB1 := mz hb1; have BM := mz hbox; obtain ⟨x0, x1, x2, x3⟩ := cells4 hbox; clear hgm hbox hb1)
      refine (spec_GoodServer.calls K0 a t A c l true w1 (Kd.C_below HR.out HB1.out) HC.out HK0.out).mono ?_
      rintro e w2 ⟨rfl, hb2⟩
      have HB2 := mz (below_step HB1.out hb2)
      have BM2 := mz (blk_below BM.out hb2)
      clear x0 x1 x2 x3 hb2
      obtain ⟨x0, x1, x2, x3⟩ := cells4 BM2.out
      go_wp2_with fail
      refine (spec_l1In.calls (cs.length : Int) 1 4 false _ ((l1In_val _ _ _).trans (congrArg some HN.out))).mono ?_
      rintro e w3 ⟨rfl, hd3⟩
      have hb3 := hd3.below
      clear hd3
      have HB3 := mz (below_step HB2.out hb3)
      have BM3 := mz (blk_below BM2.out hb3)
      clear x0 x1 x2 x3 hb3
      obtain ⟨x0, x1, x2, x3⟩ := cells4 BM3.out
      go_wp2_with fail
      go_ret
      exact ⟨rfl, HB3.out⟩
    | true =>
      have HV : Aside0 (goodM a t l cs = cliFrom a l cs 0) := ⟨by unfold goodM; rw [HG.out, Bool.true_and, show (decide (1 ≤ cs.length) && decide (cs.length ≤ 4)) = true by rw [← hn]; congr 1 <;> (apply decide_eq_decide.2; omega), Bool.true_and]⟩
      have HN := mz hn
      clear hn
      obtain ⟨TS, hT1, hT2, hT3⟩ := texts_good HG.out
      obtain ⟨K4, hK4⟩ := Ev.rounds (texts_ev a t l (goodB_of HG.out).2.1 (fun e he => (entryB_of ((goodB_of HG.out).2.2.2.2.2 e he)).2.2.2.2))
      rw [hT1] at hK4
      have HK4 := mz hK4
      have HT2 := mz hT2
      have HT3 := mz hT3
      clear hK4 hT1 hT2 hT3
      go_enter Try.func12, Try.ntmps12
      go_wp2_with ((with_reducible refine gate_dst (N := 1) rfl ?_); refine bx 1 #[.string a, .string t, .slice A l.length c, .slice A3 cs.length c3] 27 ?_; intro gm hgm w1 hbox hb1; have HB1 := mz hb1; have BM := mz hbox; obtain ⟨x0, x1, x2, x3⟩ := cells4 hbox; clear hgm hbox hb1)
      refine (spec_GoodServer.calls K0 a t A c l true w1 (Kd.C_below HR.out HB1.out) HC.out HK0.out).mono ?_
      rintro e w2 ⟨rfl, hb2⟩
      have HB2 := mz (below_step HB1.out hb2)
      have BM2 := mz (blk_below BM.out hb2)
      clear x0 x1 x2 x3 hb2
      obtain ⟨x0, x1, x2, x3⟩ := cells4 BM2.out
      go_wp2_with fail
      refine (spec_l1In.calls (cs.length : Int) 1 4 true _ ((l1In_val _ _ _).trans (congrArg some HN.out))).mono ?_
      rintro e w3 ⟨rfl, hd3⟩
      have hb3 := hd3.below
      clear hd3
      have HB3 := mz (below_step HB2.out hb3)
      have BM3 := mz (blk_below BM2.out hb3)
      clear x0 x1 x2 x3 hb3
      obtain ⟨x0, x1, x2, x3⟩ := cells4 BM3.out
      go_wp2_with fail
      refine (spec_l15Texts.calls K4 a t A c l TS true _ (Kd.C_below HR.out HB3.out) HC.out HK4.out).mono ?_
      rintro e w4 ⟨v4, rfl, hR4, hb4⟩
      have HB4 := mz (below_step HB3.out hb4)
      have BM4 := mz (blk_below BM3.out hb4)
      clear x0 x1 x2 x3 hb4
      obtain ⟨x0, x1, x2, x3⟩ := cells4 BM4.out
      obtain ⟨AT, cT, rfl, hlT, hCT⟩ := Kd.R_reads hR4
      have HCT := mz hCT
      have HLT := mz hlT
      clear hR4 hCT hlT BM BM2 BM3 HB1 HB2 HB3
      go_wp2_with fail
      go_loopg [32] cs.length (fun gg z32 wr => ∃ kk : Nat, kk ≤ cs.length ∧ cs.length - kk ≤ gg ∧ z32 = .int .i64 kk ∧ Aside0 (Below w4.heap.size w4 wr) ∧ Aside0 (cliFrom a l cs 0 = cliFrom a l (cs.drop kk) kk))
      case atStart => exact ⟨0, Nat.zero_le _, by omega, rfl, ⟨Below.refl _ _⟩, ⟨by rw [List.drop_zero]⟩⟩
      case round =>
        clear x0 x1 x2 x3
        obtain ⟨kk, hkk, hgg, rfl, BW, SV⟩ := hrel
        by_cases hlt : kk < cs.length
        · have hltz : (kk : Int) < (cs.length : Int) := by omega
          obtain ⟨ad, A5, c5, A6, c6, e1, hx0, hx1, hx2, hx3, hx4, hx5, hx6, hx7, hl5, hi5, hl6, hi6⟩ := at_T51 (Kd.C_below HR3.out (below_step HB4.out BW.out)) (kk : Int) (by omega) hltz
          subst e1
          have hsz := sizedC_of HS3.out cs[kk] (List.getElem_mem hlt)
          rw [rd_client cs kk hlt] at hx0 hx1 hx2 hx3 hx4 hx5 hx6 hx7 hl5 hi5 hl6 hi6
          rw [Int.toNat_natCast] at hx0 hx1 hx2 hx3 hx4 hx5 hx6 hx7
          have SV2 := SV.out
          rw [List.drop_eq_getElem_cons hlt, cliFrom] at SV2
          clear SV
          generalize cs[kk] = y at hx0 hx1 hx2 hx3 hx4 hx5 hx6 hx7 hl5 hi5 hl6 hi6 SV2 hsz
          have hKC := spec_l16Client_ev y hsz.1 hsz.2.1 hsz.2.2
          have SV := mz SV2
          have H5 := mz hi5
          have HC5 := mz hl5
          have H6 := mz hi6
          have HC6 := mz hl6
          have HSZ := mz hsz
          clear SV2 hi5 hl5 hi6 hl6 hsz
          go_upto_region 7 with ((with_reducible refine gate_dst (N := 6) rfl ?_); refine bx 6 #[.int .i64 0, .string ⟨#[]⟩, .int .i64 0, .int .i64 0, .bool false, .slice none 0 0, .slice none 0 0, .bool false] 51 ?_; intro gc hgc w5 hbox hb5; have HB5 := mz hb5; have BC5 := mz hbox; have G5 : Aside0 (wr.heap.size ≤ gc) := ⟨by rw [hgc]; first | exact Nat.le_refl _ | simp⟩; obtain ⟨z0, z1, z2, z3, z4, z5, z6, z7⟩ := cells8 hbox; obtain ⟨f0, f1, f2, f3, f4, f5, f6, f7⟩ := froz8 hbox; clear hb5 hbox hgc)
          obtain ⟨BC6, HB6⟩ := fill8 (v0 := .int .i64 y.f0) (v1 := .string y.f1) (v2 := .int .i64 y.f2) (v3 := .int .i64 y.f3) (v4 := .bool y.f4) (v5 := .slice A5 y.f5.length c5) (v6 := .slice A6 y.f6.length c6) (v7 := .bool y.f7) HB5.out G5.out BC5.out
          clear z0 z1 z2 z3 z4 z5 z6 z7 f0 f1 f2 f3 f4 f5 f6 f7 hx0 hx1 hx2 hx3 hx4 hx5 hx6 hx7 BC5 HB5 G5
          generalize (((((((w5.setCell ⟨gc, 0, none⟩ (.int .i64 y.f0)).setCell ⟨gc, 1, none⟩ (.string y.f1)).setCell ⟨gc, 2, none⟩ (.int .i64 y.f2)).setCell ⟨gc, 3, none⟩ (.int .i64 y.f3)).setCell ⟨gc, 4, none⟩ (.bool y.f4)).setCell ⟨gc, 5, none⟩ (.slice A5 y.f5.length c5)).setCell ⟨gc, 6, none⟩ (.slice A6 y.f6.length c6)).setCell ⟨gc, 7, none⟩ (.bool y.f7) = w6 at BC6 HB6 ⊢
          have B6R := mz HB6
          have HB46 := mz (below_step BW.out HB6)
          have BM6 := mz (blk_below BM4.out HB46.out)
          have BC6 := mz BC6
          clear HB6
          obtain ⟨x0, x1, x2, x3⟩ := cells4 BM6.out
          obtain ⟨y0, y1, y2, y3, y4, y5, y6, y7⟩ := cells8 BC6.out
          go_wp2_with fail
          refine (spec_l16Client.calls y.f0 y.f1 y.f2 y.f3 y.f4 A5 c5 y.f5 A6 c6 y.f6 y.f7 _ _ (Kd.C_below H5.out B6R.out) HC5.out (Kd.C_below H6.out B6R.out) HC6.out hKC).mono ?_
          rintro e w7 ⟨rfl, hb7⟩
          have B67 := mz hb7
          have HB47 := mz (below_step HB46.out hb7)
          have BM7 := mz (blk_below BM6.out hb7)
          have BC7 := mz (blk_below BC6.out hb7)
          have B7R := mz (below_step B6R.out hb7)
          clear x0 x1 x2 x3 y0 y1 y2 y3 y4 y5 y6 y7 hb7
          obtain ⟨x0, x1, x2, x3⟩ := cells4 BM7.out
          obtain ⟨y0, y1, y2, y3, y4, y5, y6, y7⟩ := cells8 BC7.out
          clear hKC
          cases hcb : clientB y with
          | false =>
            have HF : Aside0 (cliFrom a l cs 0 = false) := ⟨by rw [SV.out, hcb]; simp⟩
            clear SV hcb
            go_wp2_with fail
            go_ret
            exact ⟨by rw [HV.out, HF.out]; rfl, below_step HB4.out HB47.out⟩
          | true =>
            have HCB := mz hcb
            cases hid : (y.f0 == (kk : Int)) with
            | false =>
              have hne : (y.f0 != (kk : Int)) = true := by simpa using hid
              have HF : Aside0 (cliFrom a l cs 0 = false) := ⟨by rw [SV.out, hid]; rfl⟩
              clear SV hid hcb
              go_wp2_with fail
              go_ret
              exact ⟨by rw [HV.out, HF.out]; rfl, below_step HB4.out HB47.out⟩
            | true =>
              have hne : (y.f0 != (kk : Int)) = false := by simpa using hid
              have SV2 : Aside0 (cliFrom a l cs 0 = (isAtV y a l && cliFrom a l (cs.drop (kk + 1)) (kk + 1))) := ⟨by rw [SV.out, hid, hcb]; simp⟩
              clear SV hid hcb
              by_cases hv : (l.length : Int) < y.f2
              · have HF : Aside0 (cliFrom a l cs 0 = false) := ⟨by rw [SV2.out, isAtV, if_pos hv, Bool.false_and]⟩
                clear SV2
                go_wp2_with fail
                go_ret
                exact ⟨by rw [HV.out, HF.out]; rfl, below_step HB4.out HB47.out⟩
              have hv0 := (clientB_of HCB.out).2.2.2.1
              have hvT : y.f2 < (TS.length : Int) := by have := HT2.out; omega
              obtain ⟨at_, eT, hcT⟩ := Kd.at_string (Kd.C_below HCT.out HB47.out) y.f2 hv0 hvT
              subst eT
              have hz := HT3.out y.f2 hv0 (by omega)
              rw [hz.2] at hcT
              have HTB := mz hz.1
              clear hz
              generalize hu0 : (runB (l.take y.f2.toNat) a).1 = u0 at hcT HTB
              have HU0 := mz hu0
              have hlT' := HLT.out
              clear hu0
              go_upto_if 61 with (fail)
              clear hcT
              have SV3 : Aside0 (cliFrom a l cs 0 = ((ownB y.f0 y.f3 y.f4 (l.drop y.f2.toNat) && !(decide (y.f3 < lastB y.f0 l 0) || (y.f4 && !inB y.f0 y.f3 (l.drop y.f2.toNat) && (lastB y.f0 l 0 == y.f3))) && ((afterV y.f7 y.f6 (afterV y.f4 y.f5 (u0, true))).2 && decide ((afterV y.f7 y.f6 (afterV y.f4 y.f5 (u0, true))).1 = y.f1))) && cliFrom a l (cs.drop (kk + 1)) (kk + 1))) := ⟨by rw [SV2.out, isAtV_spec hv0 (by omega) HTB.out.2, HU0.out]⟩
              have HTX : Aside0 (textB u0 = true) := ⟨by rw [← HU0.out]; exact (HT3.out y.f2 hv0 (by omega)).1.1⟩
              clear SV2 HTB
              go_cut [7, 8] (fun z7 z8 wc => ∃ (u1 : ByteArray) (k1 : Bool), z7 = .string u1 ∧ z8 = .bool k1 ∧ Aside0 (k1 = true → afterV y.f4 y.f5 (u0, true) = (u1, true) ∧ textB u1 = true) ∧ Aside0 (k1 = false → (afterV y.f4 y.f5 (u0, true)).2 = false) ∧ Aside0 (Below w6.heap.size w6 wc))
              case first =>
                cases b4 : y.f4 with
                | false =>
                  have hb4 := mz b4
                  clear b4
                  go_wp2_with fail
                  go_meet
                  case rel => exact ⟨u0, true, rfl, rfl, ⟨fun _ => ⟨by simp [afterV, hb4.out], HTX.out⟩⟩, ⟨fun h => absurd h (by simp)⟩, B67⟩
                | true =>
                  have hb4 := mz b4
                  clear b4
                  have ho := (clientB_of HCB.out).2.2.2.2.2.2.2.1
                  obtain ⟨KA, hKA⟩ := Ev.rounds (specApply_ev y.f5 u0 (opB_of ho).1 (opB_of ho).2.1)
                  obtain ⟨⟨r1, r2⟩, hr⟩ : ∃ p, appB y.f5 u0 ⟨#[]⟩ = p := ⟨_, rfl⟩
                  rw [hr] at hKA
                  have HOK : Aside0 (r2 = true → applyV y.f5 u0 = (r1, true)) := ⟨fun h => by subst h; simp [applyV, ho, (HTX).out, ansB, hr]⟩
                  have HNO : Aside0 (r2 = false → (applyV y.f5 u0).2 = false) := ⟨fun h => by subst h; simp [applyV, ho, (HTX).out, ansB, hr]⟩
                  have HO := mz ho
                  have HKA := mz hKA
                  clear ho hr hKA
                  go_wp2_with fail
                  refine (spec_l3Apply.calls KA A5 c5 y.f5 u0 r1 r2 _ (Kd.C_below H5.out (below_step B6R.out B67.out)) HC5.out HKA.out).mono ?_
                  rintro e w8 ⟨rfl, hb8⟩
                  have HB8 := mz (below_step B67.out hb8)
                  clear hb8
                  go_wp2_with fail
                  go_meet
                  case rel => exact ⟨r1, r2, rfl, rfl, ⟨fun h => ⟨by simp [afterV, hb4.out, HOK.out h], applyV_text HO.out (HTX).out (HOK.out h)⟩⟩, ⟨fun h => by simp [afterV, hb4.out, HNO.out h]⟩, HB8⟩
              case rest =>
              clear x0 x1 x2 x3
              clear y0 y1 y2 y3 y4 y5 y6 y7
              obtain ⟨u1, k1, rfl, rfl, HK1, HK1N, HBC⟩ := hcut
              have BMC := mz (blk_below BM6.out HBC.out)
              have BCC := mz (blk_below BC6.out HBC.out)
              obtain ⟨x0, x1, x2, x3⟩ := cells4 BMC.out
              obtain ⟨y0, y1, y2, y3, y4, y5, y6, y7⟩ := cells8 BCC.out
              cases k1 with
              | false =>
                have HF : Aside0 (cliFrom a l cs 0 = false) := ⟨by rw [SV3.out, show (afterV y.f7 y.f6 (afterV y.f4 y.f5 (u0, true))).2 = false by rw [afterV, HK1N.out rfl]; simp; exact HK1N.out rfl]; simp⟩
                go_wp2_with fail
                go_ret
                exact ⟨by rw [HV.out, HF.out]; rfl, below_step HB4.out (below_step HB46.out HBC.out)⟩
              | true =>
                have HU1 : Aside0 (textB u1 = true) := ⟨(HK1.out rfl).2⟩
                have HE1 : Aside0 (afterV y.f4 y.f5 (u0, true) = (u1, true)) := ⟨(HK1.out rfl).1⟩
                clear HK1 HK1N
                go_upto_if 73 with (fail)
                go_cut [7, 8] (fun z7 z8 wc => ∃ (u2 : ByteArray) (k2 : Bool), z7 = .string u2 ∧ z8 = .bool k2 ∧ Aside0 (k2 = true → afterV y.f7 y.f6 (u1, true) = (u2, true) ∧ textB u2 = true) ∧ Aside0 (k2 = false → (afterV y.f7 y.f6 (u1, true)).2 = false) ∧ Aside0 (Below w6.heap.size w6 wc))
                case first =>
                  cases b4 : y.f7 with
                  | false =>
                    have hb4 := mz b4
                    clear b4
                    go_wp2_with fail
                    go_meet
                    case rel => exact ⟨u1, true, rfl, rfl, ⟨fun _ => ⟨by simp [afterV, hb4.out], HU1.out⟩⟩, ⟨fun h => absurd h (by simp)⟩, HBC⟩
                  | true =>
                    have hb4 := mz b4
                    clear b4
                    have ho := (clientB_of HCB.out).2.2.2.2.2.2.2.2
                    obtain ⟨KA, hKA⟩ := Ev.rounds (specApply_ev y.f6 u1 (opB_of ho).1 (opB_of ho).2.1)
                    obtain ⟨⟨r1, r2⟩, hr⟩ : ∃ p, appB y.f6 u1 ⟨#[]⟩ = p := ⟨_, rfl⟩
                    rw [hr] at hKA
                    have HOK : Aside0 (r2 = true → applyV y.f6 u1 = (r1, true)) := ⟨fun h => by subst h; simp [applyV, ho, (HU1).out, ansB, hr]⟩
                    have HNO : Aside0 (r2 = false → (applyV y.f6 u1).2 = false) := ⟨fun h => by subst h; simp [applyV, ho, (HU1).out, ansB, hr]⟩
                    have HO := mz ho
                    have HKA := mz hKA
                    clear ho hr hKA
                    go_wp2_with fail
                    refine (spec_l3Apply.calls KA A6 c6 y.f6 u1 r1 r2 _ (Kd.C_below H6.out (below_step B6R.out HBC.out)) HC6.out HKA.out).mono ?_
                    rintro e w8 ⟨rfl, hb8⟩
                    have HB8 := mz (below_step HBC.out hb8)
                    clear hb8
                    go_wp2_with fail
                    go_meet
                    case rel => exact ⟨r1, r2, rfl, rfl, ⟨fun h => ⟨by simp [afterV, hb4.out, HOK.out h], applyV_text HO.out (HU1).out (HOK.out h)⟩⟩, ⟨fun h => by simp [afterV, hb4.out, HNO.out h]⟩, HB8⟩
                case rest =>
                clear x0 x1 x2 x3
                clear y0 y1 y2 y3 y4 y5 y6 y7 BMC BCC HBC
                obtain ⟨u2, k2, rfl, rfl, HK2, HK2N, HBC⟩ := hcut
                have BMC := mz (blk_below BM6.out HBC.out)
                have BCC := mz (blk_below BC6.out HBC.out)
                obtain ⟨x0, x1, x2, x3⟩ := cells4 BMC.out
                obtain ⟨y0, y1, y2, y3, y4, y5, y6, y7⟩ := cells8 BCC.out
                cases k2 with
                | false =>
                  have HF : Aside0 (cliFrom a l cs 0 = false) := ⟨by rw [SV3.out, HE1.out, HK2N.out rfl]; simp⟩
                  go_wp2_with fail
                  go_ret
                  exact ⟨by rw [HV.out, HF.out]; rfl, below_step HB4.out (below_step HB46.out HBC.out)⟩
                | true =>
                  have HE2 : Aside0 ((afterV y.f7 y.f6 (afterV y.f4 y.f5 (u0, true))) = (u2, true)) := ⟨by rw [HE1.out]; exact (HK2.out rfl).1⟩
                  clear HK2 HK2N
                  cases hut : (u2.toList == y.f1.toList) with
                  | false =>
                    have hne : (u2.toList != y.f1.toList) = true := by rw [bne, hut]; rfl
                    have HD : Aside0 (decide (u2 = y.f1) = false) := ⟨decide_eq_false (fun h => by rw [h] at hut; simp at hut)⟩
                    have HF : Aside0 (cliFrom a l cs 0 = false) := ⟨by rw [SV3.out, HE2.out, HD.out]; simp⟩
                    go_wp2_with fail
                    go_ret
                    exact ⟨by rw [HV.out, HF.out]; rfl, below_step HB4.out (below_step HB46.out HBC.out)⟩
                  | true =>
                    have hne : (u2.toList != y.f1.toList) = false := by rw [bne, hut]; rfl
                    have HD : Aside0 (u2 = y.f1) := ⟨ba_ext (by simpa using hut)⟩
                    have SV4 : Aside0 (cliFrom a l cs 0 = ((ownB y.f0 y.f3 y.f4 (l.drop y.f2.toNat) && !(decide (y.f3 < lastB y.f0 l 0) || (y.f4 && !inB y.f0 y.f3 (l.drop y.f2.toNat) && (lastB y.f0 l 0 == y.f3)))) && cliFrom a l (cs.drop (kk + 1)) (kk + 1))) := ⟨by rw [SV3.out, HE2.out, HD.out]; simp⟩
                    clear SV3 HE2 HE1 HD
                    obtain ⟨KL, hKL⟩ := Ev.rounds (specLast_ev a t l y.f0 (goodB_of HG.out).2.1 (goodB_of HG.out).2.2.1)
                    have HKL := mz hKL
                    clear hKL
                    go_wp2_with fail
                    refine (spec_l15Last.calls KL a t A c l y.f0 _ _ (Kd.C_below HR.out (below_step HB4.out (below_step HB46.out HBC.out))) HC.out HKL.out).mono ?_
                    rintro e w9 ⟨rfl, hb9⟩
                    have HB9 := mz (below_step HBC.out hb9)
                    have BM9 := mz (blk_below BM6.out HB9.out)
                    have BC9 := mz (blk_below BC6.out HB9.out)
                    clear x0 x1 x2 x3 y0 y1 y2 y3 y4 y5 y6 y7 hb9
                    generalize hla : lastB y.f0 l 0 = la at SV4
                    have HLA := mz hla
                    clear hla
                    generalize hil : inB y.f0 y.f3 (l.drop y.f2.toNat) = il at SV4
                    have HIL := mz hil
                    clear hil
                    go_upto_region 18 with (fail)
                    go_cut [125] (fun z wc => z = .bool (decide (y.f3 < la) || (y.f4 && !il && (la == y.f3))) ∧ Aside0 (Below w6.heap.size w6 wc))
                    case first =>
                      obtain ⟨x0, x1, x2, x3⟩ := cells4 BM9.out
                      obtain ⟨y0, y1, y2, y3, y4, y5, y6, y7⟩ := cells8 BC9.out
                      generalize hb4 : y.f4 = b4 at y4
                      have HB4_ := mz hb4
                      clear hb4
                      cases b4 with
                      | false =>
                        by_cases h1 : y.f3 < la
                        · go_wp2_with fail
                          go_meet
                          case rel => exact ⟨by simp [h1], HB9⟩
                        · go_wp2_with fail
                          go_meet
                          case rel => exact ⟨by simp [h1, HB4_.out], HB9⟩
                      | true =>
                        obtain ⟨KI, hKI⟩ := Ev.rounds (inLog_ev a t l y HL1.out (clientB_of HCB.out).2.2.2.1 (by omega))
                        rw [HIL.out] at hKI
                        have HKI := mz hKI
                        clear hKI
                        go_wp2_with fail
                        have hcl := spec_l16InLog.calls KI a t A c l y.f0 y.f1 y.f2 y.f3 y.f4 A5 c5 y.f5 A6 c6 y.f6 y.f7 il w9 (Kd.C_below HR.out (below_step HB4.out (below_step HB46.out HB9.out))) HC.out (Kd.C_below H5.out (below_step B6R.out HB9.out)) HC5.out (Kd.C_below H6.out (below_step B6R.out HB9.out)) HC6.out HKI.out
                        rw [HB4_.out] at hcl
                        refine hcl.mono ?_
                        clear hcl
                        rintro e w10 ⟨rfl, hb10⟩
                        have HB10 := mz (below_step HB9.out hb10)
                        have BC10 := mz (blk_below BC6.out HB10.out)
                        clear x0 x1 x2 x3 y0 y1 y2 y3 y4 y5 y6 y7 hb10
                        obtain ⟨y0, y1, y2, y3, y4, y5, y6, y7⟩ := cells8 BC10.out
                        rw [HB4_.out] at y4
                        cases il with
                        | true =>
                          by_cases h1 : y.f3 < la
                          · go_wp2_with fail
                            go_meet
                            case rel => exact ⟨by simp [h1], HB10⟩
                          · go_wp2_with fail
                            go_meet
                            case rel => exact ⟨by simp [h1], HB10⟩
                        | false =>
                          by_cases h2 : la ≥ y.f3
                          · go_wp2_with fail
                            go_meet
                            case rel => exact ⟨by simp [HB4_.out]; omega, HB10⟩
                          · have h1 : ¬ y.f3 < la := by omega
                            go_wp2_with fail
                            go_meet
                            case rel => exact ⟨by have e1 : decide (y.f3 ≤ la) = false := decide_eq_false (by omega); have e2 : (la == y.f3) = false := beq_eq_false_iff_ne.2 (by omega); have e3 : decide (y.f3 < la) = false := decide_eq_false (by omega); simp [HB4_.out, e1, e2, e3], HB10⟩
                    case rest =>
                    obtain ⟨rfl, HBE⟩ := hcut
                    cases hbb : (decide (y.f3 < la) || (y.f4 && !il && (la == y.f3))) with
                    | true =>
                      have HF : Aside0 (cliFrom a l cs 0 = false) := ⟨by rw [SV4.out, hbb]; simp⟩
                      clear hbb SV4
                      go_wp2_with fail
                      go_ret
                      exact ⟨by rw [HV.out, HF.out]; rfl, below_step HB4.out (below_step HB46.out HBE.out)⟩
                    | false =>
                      have SV5 : Aside0 (cliFrom a l cs 0 = (ownB y.f0 y.f3 y.f4 (l.drop y.f2.toNat) && cliFrom a l (cs.drop (kk + 1)) (kk + 1))) := ⟨by rw [SV4.out, hbb]; simp⟩
                      clear hbb SV4
                      have BME := mz (blk_below BM6.out HBE.out)
                      have BCE := mz (blk_below BC6.out HBE.out)
                      obtain ⟨x0, x1, x2, x3⟩ := cells4 BME.out
                      obtain ⟨y0, y1, y2, y3, y4, y5, y6, y7⟩ := cells8 BCE.out
                      obtain ⟨n, hn⟩ : ∃ n : Nat, y.f2 = (n : Int) := ⟨y.f2.toNat, by omega⟩
                      rw [hn] at y2
                      have SV6 := SV5.out
                      rw [hn, Int.toNat_natCast] at SV6
                      have hnl : n ≤ l.length := by omega
                      have hnc : n ≤ c := Nat.le_trans hnl HC.out
                      have hnc2 : (n : Int) ≤ (c : Int) := by omega
                      have hn0 : (0 : Int) ≤ (n : Int) := by omega
                      clear hn SV5
                      obtain ⟨A', hA'⟩ : ∃ A', A' = (if c = n then A else A.map (·.add (n * 3))) := ⟨_, rfl⟩
                      have CD : Aside0 (Kd.C k67 w A' (l.drop n).length (l.drop n)) := ⟨by rw [hA']; exact Kd.C_drop HR.out hnl HC.out⟩
                      have hLl : (l.drop n).length = l.length - n := List.length_drop
                      generalize hL : l.drop n = L at SV6 CD hLl
                      clear hL
                      have SV7 := mz SV6
                      have HAP := mz hA'
                      have HLl := mz hLl
                      clear SV6 hA' hLl hv hvT hv0
                      go_wp2_with ((with_reducible refine gate_dst (N := 131) rfl ?_); refine vl 131 (.slice A' (l.length - n) (c - n)) ?_ ?h131; (case h131 => (rw [HAP.out]; by_cases hcv : c = n; (· subst hcv; go_simp); (· go_simp))))
                      rw [← HLl.out]
                      have HL2 : Aside0 (L.length ≤ 9223372036854775807) := ⟨by have := HL1.out; have := HLl.out; omega⟩
                      clear x0 x1 x2 x3 y0 y1 y2 y3 y4 y5 y6 y7 hnl hnc hnc2 hn0
                      have HBW := mz (below_step HB46.out HBE.out)
                      go_loopg [133] L.length (fun gg z133 wr => ∃ jj : Nat, jj ≤ L.length ∧ L.length - jj ≤ gg ∧ z133 = .int .i64 jj ∧ Aside0 (Below w6.heap.size w6 wr) ∧ Aside0 (ownB y.f0 y.f3 y.f4 L = ownB y.f0 y.f3 y.f4 (L.drop jj)))
                      case atStart => exact ⟨0, Nat.zero_le _, by omega, rfl, ⟨HBE.out⟩, ⟨by rw [List.drop_zero]⟩⟩
                      case round =>
                        obtain ⟨jj, hjj, hgj, rfl, BI, OV⟩ := hrel
                        by_cases hjl : jj < L.length
                        · have hjz : (jj : Int) < (L.length : Int) := by omega
                          obtain ⟨ae, A2, c2, e1, hx0, hx1, hx2, hl2, hi2⟩ := at_T67 (Kd.C_below CD.out (below_step HB4.out (below_step HB46.out BI.out))) (jj : Int) (by omega) hjz
                          subst e1
                          rw [rd_entry L jj hjl] at hx0 hx1 hx2 hl2 hi2
                          rw [Int.toNat_natCast] at hx0 hx1 hx2
                          have OV2 := OV.out
                          rw [List.drop_eq_getElem_cons hjl, show ∀ (e : Entry) (r : List Entry), ownB y.f0 y.f3 y.f4 (e :: r) = (!(e.f0 == y.f0 && !(y.f4 && e.f1 == y.f3)) && ownB y.f0 y.f3 y.f4 r) from fun _ _ => rfl] at OV2
                          clear OV hl2 hi2
                          generalize L[jj] = e at hx0 hx1 hx2 OV2
                          have OV := mz OV2
                          clear OV2
                          go_upto_region 23 with ((with_reducible refine gate_dst (N := 11) rfl ?_); refine bx 11 #[.int .i64 0, .int .i64 0, .slice none 0 0] 67 ?_; intro ge hge w20 hbox hb3; have HB20 := mz hb3; have BE20 := mz hbox; have G20 : Aside0 (wr.heap.size ≤ ge) := ⟨by rw [hge]; first | exact Nat.le_refl _ | simp⟩; obtain ⟨z0, z1, z2⟩ := cells3 hbox; obtain ⟨f0, f1, f2⟩ := froz3 hbox; clear hb3 hbox hge)
                          obtain ⟨BE21, HB21⟩ := fill3 (v0 := .int .i64 e.f0) (v1 := .int .i64 e.f1) (v2 := .slice A2 e.f2.length c2) HB20.out G20.out BE20.out
                          clear z0 z1 z2 f0 f1 f2 BE20 HB20 G20 hx0 hx1 hx2
                          generalize ((w20.setCell ⟨ge, 0, none⟩ (.int .i64 e.f0)).setCell ⟨ge, 1, none⟩ (.int .i64 e.f1)).setCell ⟨ge, 2, none⟩ (.slice A2 e.f2.length c2) = w21 at BE21 HB21 ⊢
                          have HBI := mz (below_step BI.out HB21)
                          clear HB21
                          obtain ⟨p0, p1, p2⟩ := cells3 BE21
                          clear BE21
                          obtain ⟨y0, y1, y2, y3, y4, y5, y6, y7⟩ := cells8 (blk_below BC6.out HBI.out)
                          generalize hb4 : y.f4 = b4 at y4
                          have HB4_ := mz hb4
                          clear hb4
                          cases hei : (e.f0 == y.f0) with
                          | false =>
                            have OV3 : Aside0 (ownB y.f0 y.f3 y.f4 L = ownB y.f0 y.f3 y.f4 (L.drop (jj + 1))) := ⟨by rw [OV.out, hei]; simp⟩
                            clear OV
                            go_wp2_with fail
                            go_roundg (L.length - (jj + 1))
                            case measure => omega
                            case rel => have hl64 := HL2.out; exact ⟨jj + 1, by omega, by omega, by (first | go_num | (congr 1; unfold wrap64; omega)), ⟨HBI.out⟩, ⟨OV3.out⟩⟩
                          | true =>
                            cases b4 with
                            | false =>
                              have HF : Aside0 (cliFrom a l cs 0 = false) := ⟨by rw [SV7.out, OV.out, hei, HB4_.out]; simp⟩
                              clear OV
                              go_wp2_with fail
                              go_ret
                              exact ⟨by rw [HV.out, HF.out]; rfl, below_step HB4.out (below_step HB46.out HBI.out)⟩
                            | true =>
                              cases heq : (e.f1 == y.f3) with
                              | false =>
                                have HF : Aside0 (cliFrom a l cs 0 = false) := ⟨by rw [SV7.out, OV.out, hei, HB4_.out, heq]; simp⟩
                                clear OV
                                go_wp2_with fail
                                go_ret
                                exact ⟨by rw [HV.out, HF.out]; rfl, below_step HB4.out (below_step HB46.out HBI.out)⟩
                              | true =>
                                have OV3 : Aside0 (ownB y.f0 y.f3 y.f4 L = ownB y.f0 y.f3 y.f4 (L.drop (jj + 1))) := ⟨by rw [OV.out, hei, heq]; simp [HB4_.out]⟩
                                clear OV
                                go_wp2_with fail
                                go_roundg (L.length - (jj + 1))
                                case measure => omega
                                case rel => have hl64 := HL2.out; exact ⟨jj + 1, by omega, by omega, by (first | go_num | (congr 1; unfold wrap64; omega)), ⟨HBI.out⟩, ⟨OV3.out⟩⟩
                        · have hjz : ¬ (jj : Int) < (L.length : Int) := by omega
                          have SV8 : Aside0 (cliFrom a l cs 0 = cliFrom a l (cs.drop (kk + 1)) (kk + 1)) := ⟨by rw [SV7.out, OV.out, List.drop_eq_nil_of_le (by omega)]; rfl⟩
                          clear OV SV7
                          go_wp2_with fail
                          go_roundg (cs.length - (kk + 1))
                          case measure => omega
                          case rel => have hl64 := HL3.out; exact ⟨kk + 1, by omega, by omega, by (first | go_num | (congr 1; unfold wrap64; omega)), ⟨below_step HB46.out BI.out⟩, ⟨SV8.out⟩⟩
        · have hltz : ¬ (kk : Int) < (cs.length : Int) := by omega
          have HF : Aside0 (cliFrom a l cs 0 = true) := ⟨by rw [SV.out, List.drop_eq_nil_of_le (by omega)]; rfl⟩
          clear SV
          go_wp2_with fail
          go_ret
          exact ⟨by rw [HV.out, HF.out]; rfl, below_step HB4.out BW.out⟩

def spec_GoodMeeting.f (a0_0 : ByteArray) (a0_1 : ByteArray) (l0_2 : List (S67)) (l0_3 : List (S51)) : Option (Bool) := if sizedL l0_2 = true ∧ a0_0.size ≤ maxLen ∧ sizedC l0_3 = true then some (goodM a0_0 a0_1 l0_2 l0_3) else none
theorem spec_GoodMeeting.calls (a0_0 : ByteArray) (a0_1 : ByteArray) (A0_2 : Option Addr) (c0_2 : Nat) (l0_2 : List (S67)) (A0_3 : Option Addr) (c0_3 : Nat) (l0_3 : List (S51)) (r : Bool) (w : World) (hr0_2 : Kd.C k67 w A0_2 l0_2.length l0_2) (hc0_2 : l0_2.length ≤ c0_2) (hr0_3 : Kd.C k51 w A0_3 l0_3.length l0_3) (hc0_3 : l0_3.length ≤ c0_3) (h : spec_GoodMeeting.f a0_0 a0_1 l0_2 l0_3 = some r) :
    Calls Try.prog 12 #[.agg #[.string a0_0, .string a0_1, .slice A0_2 l0_2.length c0_2, .slice A0_3 l0_3.length c0_3]] w fun e w' => e = .returned (.bool r) ∧ Below w.heap.size w w' := by
  unfold spec_GoodMeeting.f at h
  by_cases hs : sizedL l0_2 = true ∧ a0_0.size ≤ maxLen ∧ sizedC l0_3 = true
  · rw [if_pos hs] at h
    obtain rfl := Option.some.inj h
    exact specMeeting_walk a0_0 a0_1 A0_2 c0_2 l0_2 A0_3 c0_3 l0_3 w hr0_2 hc0_2 hs.1 hs.2.1 hr0_3 hc0_3 hs.2.2
  · rw [if_neg hs] at h
    exact absurd h (by simp)
section
attribute [local go_sem] max2_int min2_int max_two min_two max_three min_three max_four min_four
def spec_AgreesWith.f (a0_0 : ByteArray) (a0_1 : ByteArray) (l0_2 : List (S67)) (l0_3 : List (S51)) (a1 : Int) : Option (Bool × Bool) := (spec_GoodMeeting.f a0_0 a0_1 l0_2 l0_3).bind fun t102 => (if t102 = true then ((spec_l1In.f a1 0 (wrap64 ((l0_3.length : Int) - 1))).bind fun t103 => (if t103 = true then (if 0 ≤ a1 then (if a1 < (l0_3.length : Int) then (some ((((rd_T51 l0_3 a1).f1).toList == a0_1.toList), true)) else (none)) else (none)) else (some (false, false)))) else (some (false, false)))
set_option maxHeartbeats 8000000 in
set_option maxRecDepth 100000 in
theorem spec_AgreesWith.calls (a0_0 : ByteArray) (a0_1 : ByteArray) (A0_2 : Option Addr) (c0_2 : Nat) (l0_2 : List (S67)) (A0_3 : Option Addr) (c0_3 : Nat) (l0_3 : List (S51)) (a1 : Int) (r1 : Bool) (r2 : Bool) (w : World) (hr0_2 : Kd.C k67 w A0_2 l0_2.length l0_2) (hc0_2 : l0_2.length ≤ c0_2) (hr0_3 : Kd.C k51 w A0_3 l0_3.length l0_3) (hc0_3 : l0_3.length ≤ c0_3) (h : spec_AgreesWith.f a0_0 a0_1 l0_2 l0_3 a1 = some (r1, r2)) :
    Calls Try.prog 15 #[.agg #[.string a0_0, .string a0_1, .slice A0_2 l0_2.length c0_2, .slice A0_3 l0_3.length c0_3], .int .i64 a1] w fun e w' => e = .returned (.tuple #[.bool r1, .bool r2]) ∧ Below w.heap.size w w' := by
  have hu27 := Try.underlying27
  have HR0_2 := mz hr0_2
  have HC0_2 := mz hc0_2
  clear hr0_2 hc0_2
  have HR0_3 := mz hr0_3
  have HC0_3 := mz hc0_3
  clear hr0_3 hc0_3
  have HB := mz (Below.refl w.heap.size w)
  have H : ((spec_GoodMeeting.f a0_0 a0_1 l0_2 l0_3).bind fun t102 => (if t102 = true then ((spec_l1In.f a1 0 (wrap64 ((l0_3.length : Int) - 1))).bind fun t103 => (if t103 = true then (if 0 ≤ a1 then (if a1 < (l0_3.length : Int) then (some ((((rd_T51 l0_3 a1).f1).toList == a0_1.toList), true)) else (none)) else (none)) else (some (false, false)))) else (some (false, false)))) = some (r1, r2) := h
  clear h
  replace H := be0_ H
  obtain ⟨t102, A30, H⟩ := H
  replace H : (if t102 = true then ((spec_l1In.f a1 0 (wrap64 ((l0_3.length : Int) - 1))).bind fun t103 => (if t103 = true then (if 0 ≤ a1 then (if a1 < (l0_3.length : Int) then (some ((((rd_T51 l0_3 a1).f1).toList == a0_1.toList), true)) else (none)) else (none)) else (some (false, false)))) else (some (false, false))) = some (r1, r2) := H
  have A3 := mz A30
  clear A30
  by_cases c4 : t102 = true
  · subst c4
    have H1 : ((spec_l1In.f a1 0 (wrap64 ((l0_3.length : Int) - 1))).bind fun t103 => (if t103 = true then (if 0 ≤ a1 then (if a1 < (l0_3.length : Int) then (some ((((rd_T51 l0_3 a1).f1).toList == a0_1.toList), true)) else (none)) else (none)) else (some (false, false)))) = some (r1, r2) := by rw [if_pos rfl] at H; exact H
    clear H
    have H := H1
    clear H1
    replace H := be0_ H
    obtain ⟨t103, A50, H⟩ := H
    replace H : (if t103 = true then (if 0 ≤ a1 then (if a1 < (l0_3.length : Int) then (some ((((rd_T51 l0_3 a1).f1).toList == a0_1.toList), true)) else (none)) else (none)) else (some (false, false))) = some (r1, r2) := H
    have A5 := mz A50
    clear A50
    by_cases c6 : t103 = true
    · subst c6
      have H1 : (if 0 ≤ a1 then (if a1 < (l0_3.length : Int) then (some ((((rd_T51 l0_3 a1).f1).toList == a0_1.toList), true)) else (none)) else (none)) = some (r1, r2) := by rw [if_pos rfl] at H; exact H
      clear H
      have H := H1
      clear H1
      by_cases c7 : 0 ≤ a1
      · rw [if_pos c7] at H
        have c7b0 : decide (0 ≤ a1) = true := decide_eq_true c7
        clear c7
        by_cases c8 : a1 < (l0_3.length : Int)
        · rw [if_pos c8] at H
          have c8b0 : decide (a1 < (l0_3.length : Int)) = true := decide_eq_true c8
          clear c8
          simp only [Option.some.injEq, Prod.mk.injEq] at H
          obtain ⟨rfl, rfl⟩ := H
          go_enter Try.func15, Try.ntmps15
          go_wp2_with (first | ((with_reducible refine gate_dst (N := 2) rfl ?_); (try (refine gate_guard (by rfl) ?_; dsimp only)); refine box_event ?hg (N := 2) ?hd (cs := #[.string a0_0, .string a0_1, .slice A0_2 l0_2.length c0_2, .slice A0_3 l0_3.length c0_3]) (t := 27) ?hr ?_; (case hd => rfl); (case hg => rfl); (case hr => first | (go_simp; done) | (go_simp; rfl)); intro gb101 hg w9 hbox hb; have n0_ := mz (below_step (by repeat (first | (with_reducible first | exact HB.out | apply below_alloc | apply pw_below_drewN | apply below_drew1) | exact HB.out)) hb); have n1_ := mz (hbox); have n2_ := mz ((by rw [hg]; exact (below_size (by repeat (first | (with_reducible first | exact HB.out | apply below_alloc | apply pw_below_drewN | apply below_drew1) | exact HB.out))) : w.heap.size ≤ gb101)); have n3_ := mz ((by rw [hg]; exact (below_size (by repeat (first | (with_reducible first | exact HB.out | apply below_alloc | apply pw_below_drewN | apply below_drew1) | exact HB.out))) : w.heap.size ≤ gb101)); clear HB; have HB := n0_; have BK101 := n1_; have GW101 := n2_; have GE101 := n3_; clear n0_ n1_ n2_ n3_; clear hb hbox hg; have hcz10_0 : w9.cell? ⟨gb101, 0, none⟩ = some (.string a0_0) := (blk_cell BK101.out 0).trans rfl; have hcz10_1 : w9.cell? ⟨gb101, 1, none⟩ = some (.string a0_1) := (blk_cell BK101.out 1).trans rfl; have hcz10_2 : w9.cell? ⟨gb101, 2, none⟩ = some (.slice A0_2 l0_2.length c0_2) := (blk_cell BK101.out 2).trans rfl; have hcz10_3 : w9.cell? ⟨gb101, 3, none⟩ = some (.slice A0_3 l0_3.length c0_3) := (blk_cell BK101.out 3).trans rfl; have hfz10_0 := blk_frozen BK101.out 0; have hfz10_1 := blk_frozen BK101.out 1; have hfz10_2 := blk_frozen BK101.out 2; have hfz10_3 := blk_frozen BK101.out 3) | (go_at_call 12; (with_reducible refine (spec_GoodMeeting.calls a0_0 a0_1 _ _ l0_2 _ _ l0_3 true _ ?side1 ?side2 ?side3 ?side4 A3.out).mono ?_); (case side1 => repeat (first | exact (Kd.C_below HR0_2.out HB.out) | (with_reducible refine Kd.C_alloc ?_ _) | (with_reducible refine Kd.C_drewN ?_ _) | (with_reducible refine Kd.C_drew ?_))); (case side2 => exact HC0_2.out); (case side3 => repeat (first | exact (Kd.C_below HR0_3.out HB.out) | (with_reducible refine Kd.C_alloc ?_ _) | (with_reducible refine Kd.C_drewN ?_ _) | (with_reducible refine Kd.C_drew ?_))); (case side4 => exact HC0_3.out); rintro e w11 ⟨rfl, hb⟩; have n0_ := mz (blk_below (g := gb101) (o := .cells #[.string a0_0, .string a0_1, .slice A0_2 l0_2.length c0_2, .slice A0_3 l0_3.length c0_3] 27 (0, 0)) (by (with_reducible repeat (first | refine blk_drewN ?_ _ | refine blk_drew ?_ | refine blk_alloc ?_ _)); exact BK101.out) hb); have n1_ := mz (below_step (by repeat (first | (with_reducible first | exact HB.out | apply below_alloc | apply pw_below_drewN | apply below_drew1 | refine below_set ?_ GE101.out) | exact HB.out)) hb); clear BK101; clear HB; have BK101 := n0_; have HB := n1_; clear n0_ n1_; (try clear hb); (try clear hb2); (try clear hk); (try clear hi); have hcz12_0 : w11.cell? ⟨gb101, 0, none⟩ = some (.string a0_0) := (blk_cell BK101.out 0).trans rfl; have hcz12_1 : w11.cell? ⟨gb101, 1, none⟩ = some (.string a0_1) := (blk_cell BK101.out 1).trans rfl; have hcz12_2 : w11.cell? ⟨gb101, 2, none⟩ = some (.slice A0_2 l0_2.length c0_2) := (blk_cell BK101.out 2).trans rfl; have hcz12_3 : w11.cell? ⟨gb101, 3, none⟩ = some (.slice A0_3 l0_3.length c0_3) := (blk_cell BK101.out 3).trans rfl; have hfz12_0 := blk_frozen BK101.out 0; have hfz12_1 := blk_frozen BK101.out 1; have hfz12_2 := blk_frozen BK101.out 2; have hfz12_3 := blk_frozen BK101.out 3) | (go_at_call 18; (with_reducible refine (spec_l1In.calls a1 0 (wrap64 ((l0_3.length : Int) - 1)) true _ A5.out).mono ?_); rintro e w' ⟨rfl, ⟨nd, rfl⟩⟩; (try first | exact ⟨rfl, _, World.drewN_drewN _ _ _⟩ | exact ⟨rfl, _, Eq.trans (World.drewN_drewN _ _ _) (congrArg (World.drewN _) (Nat.add_assoc _ _ _))⟩); have p104 : 0 ≤ (a1 : Int) := of_decide_eq_true (by first | (with_reducible assumption) | assumption); have q104 : a1 < (l0_3.length : Int) := of_decide_eq_true (by first | (with_reducible assumption) | assumption); obtain ⟨ad104, A104_5, c104_5, A104_6, c104_6, e104, hx104_0, hx104_1, hx104_2, hx104_3, hx104_4, hx104_5, hx104_6, hx104_7, hl104_5, hi104_5, hl104_6, hi104_6⟩ := at_T51 HR0_3.out a1 p104 q104; cases e104; replace hx104_0 := bc_ HB.out hx104_0; replace hx104_1 := bc_ HB.out hx104_1; replace hx104_2 := bc_ HB.out hx104_2; replace hx104_3 := bc_ HB.out hx104_3; replace hx104_4 := bc_ HB.out hx104_4; replace hx104_5 := bc_ HB.out hx104_5; replace hx104_6 := bc_ HB.out hx104_6; replace hx104_7 := bc_ HB.out hx104_7; have HR104_5 := mz hi104_5; have HC104_5 := mz hl104_5; clear hi104_5 hl104_5; have HR104_6 := mz hi104_6; have HC104_6 := mz hl104_6; clear hi104_6 hl104_6; replace p104 := eq_true p104; replace q104 := eq_true q104))
          repeat (go_quiet (first | ((with_reducible refine gate_dst (N := 2) rfl ?_); (try (refine gate_guard (by rfl) ?_; dsimp only)); refine box_event ?hg (N := 2) ?hd (cs := #[.string a0_0, .string a0_1, .slice A0_2 l0_2.length c0_2, .slice A0_3 l0_3.length c0_3]) (t := 27) ?hr ?_; (case hd => rfl); (case hg => rfl); (case hr => first | (go_simp; done) | (go_simp; rfl)); intro gb101 hg w9 hbox hb; have n0_ := mz (below_step (by repeat (first | (with_reducible first | exact HB.out | apply below_alloc | apply pw_below_drewN | apply below_drew1) | exact HB.out)) hb); have n1_ := mz (hbox); have n2_ := mz ((by rw [hg]; exact (below_size (by repeat (first | (with_reducible first | exact HB.out | apply below_alloc | apply pw_below_drewN | apply below_drew1) | exact HB.out))) : w.heap.size ≤ gb101)); have n3_ := mz ((by rw [hg]; exact (below_size (by repeat (first | (with_reducible first | exact HB.out | apply below_alloc | apply pw_below_drewN | apply below_drew1) | exact HB.out))) : w.heap.size ≤ gb101)); clear HB; have HB := n0_; have BK101 := n1_; have GW101 := n2_; have GE101 := n3_; clear n0_ n1_ n2_ n3_; clear hb hbox hg; have hcz10_0 : w9.cell? ⟨gb101, 0, none⟩ = some (.string a0_0) := (blk_cell BK101.out 0).trans rfl; have hcz10_1 : w9.cell? ⟨gb101, 1, none⟩ = some (.string a0_1) := (blk_cell BK101.out 1).trans rfl; have hcz10_2 : w9.cell? ⟨gb101, 2, none⟩ = some (.slice A0_2 l0_2.length c0_2) := (blk_cell BK101.out 2).trans rfl; have hcz10_3 : w9.cell? ⟨gb101, 3, none⟩ = some (.slice A0_3 l0_3.length c0_3) := (blk_cell BK101.out 3).trans rfl; have hfz10_0 := blk_frozen BK101.out 0; have hfz10_1 := blk_frozen BK101.out 1; have hfz10_2 := blk_frozen BK101.out 2; have hfz10_3 := blk_frozen BK101.out 3) | (go_at_call 12; (with_reducible refine (spec_GoodMeeting.calls a0_0 a0_1 _ _ l0_2 _ _ l0_3 true _ ?side1 ?side2 ?side3 ?side4 A3.out).mono ?_); (case side1 => repeat (first | exact (Kd.C_below HR0_2.out HB.out) | (with_reducible refine Kd.C_alloc ?_ _) | (with_reducible refine Kd.C_drewN ?_ _) | (with_reducible refine Kd.C_drew ?_))); (case side2 => exact HC0_2.out); (case side3 => repeat (first | exact (Kd.C_below HR0_3.out HB.out) | (with_reducible refine Kd.C_alloc ?_ _) | (with_reducible refine Kd.C_drewN ?_ _) | (with_reducible refine Kd.C_drew ?_))); (case side4 => exact HC0_3.out); rintro e w11 ⟨rfl, hb⟩; have n0_ := mz (blk_below (g := gb101) (o := .cells #[.string a0_0, .string a0_1, .slice A0_2 l0_2.length c0_2, .slice A0_3 l0_3.length c0_3] 27 (0, 0)) (by (with_reducible repeat (first | refine blk_drewN ?_ _ | refine blk_drew ?_ | refine blk_alloc ?_ _)); exact BK101.out) hb); have n1_ := mz (below_step (by repeat (first | (with_reducible first | exact HB.out | apply below_alloc | apply pw_below_drewN | apply below_drew1 | refine below_set ?_ GE101.out) | exact HB.out)) hb); clear BK101; clear HB; have BK101 := n0_; have HB := n1_; clear n0_ n1_; (try clear hb); (try clear hb2); (try clear hk); (try clear hi); have hcz12_0 : w11.cell? ⟨gb101, 0, none⟩ = some (.string a0_0) := (blk_cell BK101.out 0).trans rfl; have hcz12_1 : w11.cell? ⟨gb101, 1, none⟩ = some (.string a0_1) := (blk_cell BK101.out 1).trans rfl; have hcz12_2 : w11.cell? ⟨gb101, 2, none⟩ = some (.slice A0_2 l0_2.length c0_2) := (blk_cell BK101.out 2).trans rfl; have hcz12_3 : w11.cell? ⟨gb101, 3, none⟩ = some (.slice A0_3 l0_3.length c0_3) := (blk_cell BK101.out 3).trans rfl; have hfz12_0 := blk_frozen BK101.out 0; have hfz12_1 := blk_frozen BK101.out 1; have hfz12_2 := blk_frozen BK101.out 2; have hfz12_3 := blk_frozen BK101.out 3) | (go_at_call 18; (with_reducible refine (spec_l1In.calls a1 0 (wrap64 ((l0_3.length : Int) - 1)) true _ A5.out).mono ?_); rintro e w' ⟨rfl, ⟨nd, rfl⟩⟩; (try first | exact ⟨rfl, _, World.drewN_drewN _ _ _⟩ | exact ⟨rfl, _, Eq.trans (World.drewN_drewN _ _ _) (congrArg (World.drewN _) (Nat.add_assoc _ _ _))⟩); have p104 : 0 ≤ (a1 : Int) := of_decide_eq_true (by first | (with_reducible assumption) | assumption); have q104 : a1 < (l0_3.length : Int) := of_decide_eq_true (by first | (with_reducible assumption) | assumption); obtain ⟨ad104, A104_5, c104_5, A104_6, c104_6, e104, hx104_0, hx104_1, hx104_2, hx104_3, hx104_4, hx104_5, hx104_6, hx104_7, hl104_5, hi104_5, hl104_6, hi104_6⟩ := at_T51 HR0_3.out a1 p104 q104; cases e104; replace hx104_0 := bc_ HB.out hx104_0; replace hx104_1 := bc_ HB.out hx104_1; replace hx104_2 := bc_ HB.out hx104_2; replace hx104_3 := bc_ HB.out hx104_3; replace hx104_4 := bc_ HB.out hx104_4; replace hx104_5 := bc_ HB.out hx104_5; replace hx104_6 := bc_ HB.out hx104_6; replace hx104_7 := bc_ HB.out hx104_7; have HR104_5 := mz hi104_5; have HC104_5 := mz hl104_5; clear hi104_5 hl104_5; have HR104_6 := mz hi104_6; have HC104_6 := mz hl104_6; clear hi104_6 hl104_6; replace p104 := eq_true p104; replace q104 := eq_true q104)); try go_wp2_with (first | ((with_reducible refine gate_dst (N := 2) rfl ?_); (try (refine gate_guard (by rfl) ?_; dsimp only)); refine box_event ?hg (N := 2) ?hd (cs := #[.string a0_0, .string a0_1, .slice A0_2 l0_2.length c0_2, .slice A0_3 l0_3.length c0_3]) (t := 27) ?hr ?_; (case hd => rfl); (case hg => rfl); (case hr => first | (go_simp; done) | (go_simp; rfl)); intro gb101 hg w9 hbox hb; have n0_ := mz (below_step (by repeat (first | (with_reducible first | exact HB.out | apply below_alloc | apply pw_below_drewN | apply below_drew1) | exact HB.out)) hb); have n1_ := mz (hbox); have n2_ := mz ((by rw [hg]; exact (below_size (by repeat (first | (with_reducible first | exact HB.out | apply below_alloc | apply pw_below_drewN | apply below_drew1) | exact HB.out))) : w.heap.size ≤ gb101)); have n3_ := mz ((by rw [hg]; exact (below_size (by repeat (first | (with_reducible first | exact HB.out | apply below_alloc | apply pw_below_drewN | apply below_drew1) | exact HB.out))) : w.heap.size ≤ gb101)); clear HB; have HB := n0_; have BK101 := n1_; have GW101 := n2_; have GE101 := n3_; clear n0_ n1_ n2_ n3_; clear hb hbox hg; have hcz10_0 : w9.cell? ⟨gb101, 0, none⟩ = some (.string a0_0) := (blk_cell BK101.out 0).trans rfl; have hcz10_1 : w9.cell? ⟨gb101, 1, none⟩ = some (.string a0_1) := (blk_cell BK101.out 1).trans rfl; have hcz10_2 : w9.cell? ⟨gb101, 2, none⟩ = some (.slice A0_2 l0_2.length c0_2) := (blk_cell BK101.out 2).trans rfl; have hcz10_3 : w9.cell? ⟨gb101, 3, none⟩ = some (.slice A0_3 l0_3.length c0_3) := (blk_cell BK101.out 3).trans rfl; have hfz10_0 := blk_frozen BK101.out 0; have hfz10_1 := blk_frozen BK101.out 1; have hfz10_2 := blk_frozen BK101.out 2; have hfz10_3 := blk_frozen BK101.out 3) | (go_at_call 12; (with_reducible refine (spec_GoodMeeting.calls a0_0 a0_1 _ _ l0_2 _ _ l0_3 true _ ?side1 ?side2 ?side3 ?side4 A3.out).mono ?_); (case side1 => repeat (first | exact (Kd.C_below HR0_2.out HB.out) | (with_reducible refine Kd.C_alloc ?_ _) | (with_reducible refine Kd.C_drewN ?_ _) | (with_reducible refine Kd.C_drew ?_))); (case side2 => exact HC0_2.out); (case side3 => repeat (first | exact (Kd.C_below HR0_3.out HB.out) | (with_reducible refine Kd.C_alloc ?_ _) | (with_reducible refine Kd.C_drewN ?_ _) | (with_reducible refine Kd.C_drew ?_))); (case side4 => exact HC0_3.out); rintro e w11 ⟨rfl, hb⟩; have n0_ := mz (blk_below (g := gb101) (o := .cells #[.string a0_0, .string a0_1, .slice A0_2 l0_2.length c0_2, .slice A0_3 l0_3.length c0_3] 27 (0, 0)) (by (with_reducible repeat (first | refine blk_drewN ?_ _ | refine blk_drew ?_ | refine blk_alloc ?_ _)); exact BK101.out) hb); have n1_ := mz (below_step (by repeat (first | (with_reducible first | exact HB.out | apply below_alloc | apply pw_below_drewN | apply below_drew1 | refine below_set ?_ GE101.out) | exact HB.out)) hb); clear BK101; clear HB; have BK101 := n0_; have HB := n1_; clear n0_ n1_; (try clear hb); (try clear hb2); (try clear hk); (try clear hi); have hcz12_0 : w11.cell? ⟨gb101, 0, none⟩ = some (.string a0_0) := (blk_cell BK101.out 0).trans rfl; have hcz12_1 : w11.cell? ⟨gb101, 1, none⟩ = some (.string a0_1) := (blk_cell BK101.out 1).trans rfl; have hcz12_2 : w11.cell? ⟨gb101, 2, none⟩ = some (.slice A0_2 l0_2.length c0_2) := (blk_cell BK101.out 2).trans rfl; have hcz12_3 : w11.cell? ⟨gb101, 3, none⟩ = some (.slice A0_3 l0_3.length c0_3) := (blk_cell BK101.out 3).trans rfl; have hfz12_0 := blk_frozen BK101.out 0; have hfz12_1 := blk_frozen BK101.out 1; have hfz12_2 := blk_frozen BK101.out 2; have hfz12_3 := blk_frozen BK101.out 3) | (go_at_call 18; (with_reducible refine (spec_l1In.calls a1 0 (wrap64 ((l0_3.length : Int) - 1)) true _ A5.out).mono ?_); rintro e w' ⟨rfl, ⟨nd, rfl⟩⟩; (try first | exact ⟨rfl, _, World.drewN_drewN _ _ _⟩ | exact ⟨rfl, _, Eq.trans (World.drewN_drewN _ _ _) (congrArg (World.drewN _) (Nat.add_assoc _ _ _))⟩); have p104 : 0 ≤ (a1 : Int) := of_decide_eq_true (by first | (with_reducible assumption) | assumption); have q104 : a1 < (l0_3.length : Int) := of_decide_eq_true (by first | (with_reducible assumption) | assumption); obtain ⟨ad104, A104_5, c104_5, A104_6, c104_6, e104, hx104_0, hx104_1, hx104_2, hx104_3, hx104_4, hx104_5, hx104_6, hx104_7, hl104_5, hi104_5, hl104_6, hi104_6⟩ := at_T51 HR0_3.out a1 p104 q104; cases e104; replace hx104_0 := bc_ HB.out hx104_0; replace hx104_1 := bc_ HB.out hx104_1; replace hx104_2 := bc_ HB.out hx104_2; replace hx104_3 := bc_ HB.out hx104_3; replace hx104_4 := bc_ HB.out hx104_4; replace hx104_5 := bc_ HB.out hx104_5; replace hx104_6 := bc_ HB.out hx104_6; replace hx104_7 := bc_ HB.out hx104_7; have HR104_5 := mz hi104_5; have HC104_5 := mz hl104_5; clear hi104_5 hl104_5; have HR104_6 := mz hi104_6; have HC104_6 := mz hl104_6; clear hi104_6 hl104_6; replace p104 := eq_true p104; replace q104 := eq_true q104)))
          go_ret2
          exact ⟨by first | rfl | (simp [errW_none, errW_some] <;> rfl) | (simp [*, errW_none, errW_some] <;> rfl), by repeat (first | (with_reducible first | exact HB.out | apply below_alloc | apply pw_below_drewN | apply below_drew1 | refine below_set ?_ GE101.out) | exact HB.out)⟩
        · rw [if_neg c8] at H
          exact absurd H (by simp)
      · rw [if_neg c7] at H
        exact absurd H (by simp)
    · replace c6 := Bool.eq_false_iff.mpr c6
      subst c6
      have H1 : (some (false, false)) = some (r1, r2) := by rw [if_neg (show ¬ (false = true) by decide)] at H; exact H
      clear H
      have H := H1
      clear H1
      simp only [Option.some.injEq, Prod.mk.injEq] at H
      obtain ⟨rfl, rfl⟩ := H
      go_enter Try.func15, Try.ntmps15
      go_wp2_with (first | ((with_reducible refine gate_dst (N := 2) rfl ?_); (try (refine gate_guard (by rfl) ?_; dsimp only)); refine box_event ?hg (N := 2) ?hd (cs := #[.string a0_0, .string a0_1, .slice A0_2 l0_2.length c0_2, .slice A0_3 l0_3.length c0_3]) (t := 27) ?hr ?_; (case hd => rfl); (case hg => rfl); (case hr => first | (go_simp; done) | (go_simp; rfl)); intro gb101 hg w13 hbox hb; have n0_ := mz (below_step (by repeat (first | (with_reducible first | exact HB.out | apply below_alloc | apply pw_below_drewN | apply below_drew1) | exact HB.out)) hb); have n1_ := mz (hbox); have n2_ := mz ((by rw [hg]; exact (below_size (by repeat (first | (with_reducible first | exact HB.out | apply below_alloc | apply pw_below_drewN | apply below_drew1) | exact HB.out))) : w.heap.size ≤ gb101)); have n3_ := mz ((by rw [hg]; exact (below_size (by repeat (first | (with_reducible first | exact HB.out | apply below_alloc | apply pw_below_drewN | apply below_drew1) | exact HB.out))) : w.heap.size ≤ gb101)); clear HB; have HB := n0_; have BK101 := n1_; have GW101 := n2_; have GE101 := n3_; clear n0_ n1_ n2_ n3_; clear hb hbox hg; have hcz14_0 : w13.cell? ⟨gb101, 0, none⟩ = some (.string a0_0) := (blk_cell BK101.out 0).trans rfl; have hcz14_1 : w13.cell? ⟨gb101, 1, none⟩ = some (.string a0_1) := (blk_cell BK101.out 1).trans rfl; have hcz14_2 : w13.cell? ⟨gb101, 2, none⟩ = some (.slice A0_2 l0_2.length c0_2) := (blk_cell BK101.out 2).trans rfl; have hcz14_3 : w13.cell? ⟨gb101, 3, none⟩ = some (.slice A0_3 l0_3.length c0_3) := (blk_cell BK101.out 3).trans rfl; have hfz14_0 := blk_frozen BK101.out 0; have hfz14_1 := blk_frozen BK101.out 1; have hfz14_2 := blk_frozen BK101.out 2; have hfz14_3 := blk_frozen BK101.out 3) | (go_at_call 12; (with_reducible refine (spec_GoodMeeting.calls a0_0 a0_1 _ _ l0_2 _ _ l0_3 true _ ?side1 ?side2 ?side3 ?side4 A3.out).mono ?_); (case side1 => repeat (first | exact (Kd.C_below HR0_2.out HB.out) | (with_reducible refine Kd.C_alloc ?_ _) | (with_reducible refine Kd.C_drewN ?_ _) | (with_reducible refine Kd.C_drew ?_))); (case side2 => exact HC0_2.out); (case side3 => repeat (first | exact (Kd.C_below HR0_3.out HB.out) | (with_reducible refine Kd.C_alloc ?_ _) | (with_reducible refine Kd.C_drewN ?_ _) | (with_reducible refine Kd.C_drew ?_))); (case side4 => exact HC0_3.out); rintro e w15 ⟨rfl, hb⟩; have n0_ := mz (blk_below (g := gb101) (o := .cells #[.string a0_0, .string a0_1, .slice A0_2 l0_2.length c0_2, .slice A0_3 l0_3.length c0_3] 27 (0, 0)) (by (with_reducible repeat (first | refine blk_drewN ?_ _ | refine blk_drew ?_ | refine blk_alloc ?_ _)); exact BK101.out) hb); have n1_ := mz (below_step (by repeat (first | (with_reducible first | exact HB.out | apply below_alloc | apply pw_below_drewN | apply below_drew1 | refine below_set ?_ GE101.out) | exact HB.out)) hb); clear BK101; clear HB; have BK101 := n0_; have HB := n1_; clear n0_ n1_; (try clear hb); (try clear hb2); (try clear hk); (try clear hi); have hcz16_0 : w15.cell? ⟨gb101, 0, none⟩ = some (.string a0_0) := (blk_cell BK101.out 0).trans rfl; have hcz16_1 : w15.cell? ⟨gb101, 1, none⟩ = some (.string a0_1) := (blk_cell BK101.out 1).trans rfl; have hcz16_2 : w15.cell? ⟨gb101, 2, none⟩ = some (.slice A0_2 l0_2.length c0_2) := (blk_cell BK101.out 2).trans rfl; have hcz16_3 : w15.cell? ⟨gb101, 3, none⟩ = some (.slice A0_3 l0_3.length c0_3) := (blk_cell BK101.out 3).trans rfl; have hfz16_0 := blk_frozen BK101.out 0; have hfz16_1 := blk_frozen BK101.out 1; have hfz16_2 := blk_frozen BK101.out 2; have hfz16_3 := blk_frozen BK101.out 3) | (go_at_call 18; (with_reducible refine (spec_l1In.calls a1 0 (wrap64 ((l0_3.length : Int) - 1)) false _ A5.out).mono ?_); rintro e w' ⟨rfl, ⟨nd, rfl⟩⟩; (try first | exact ⟨rfl, _, World.drewN_drewN _ _ _⟩ | exact ⟨rfl, _, Eq.trans (World.drewN_drewN _ _ _) (congrArg (World.drewN _) (Nat.add_assoc _ _ _))⟩)))
      repeat (go_quiet (first | ((with_reducible refine gate_dst (N := 2) rfl ?_); (try (refine gate_guard (by rfl) ?_; dsimp only)); refine box_event ?hg (N := 2) ?hd (cs := #[.string a0_0, .string a0_1, .slice A0_2 l0_2.length c0_2, .slice A0_3 l0_3.length c0_3]) (t := 27) ?hr ?_; (case hd => rfl); (case hg => rfl); (case hr => first | (go_simp; done) | (go_simp; rfl)); intro gb101 hg w13 hbox hb; have n0_ := mz (below_step (by repeat (first | (with_reducible first | exact HB.out | apply below_alloc | apply pw_below_drewN | apply below_drew1) | exact HB.out)) hb); have n1_ := mz (hbox); have n2_ := mz ((by rw [hg]; exact (below_size (by repeat (first | (with_reducible first | exact HB.out | apply below_alloc | apply pw_below_drewN | apply below_drew1) | exact HB.out))) : w.heap.size ≤ gb101)); have n3_ := mz ((by rw [hg]; exact (below_size (by repeat (first | (with_reducible first | exact HB.out | apply below_alloc | apply pw_below_drewN | apply below_drew1) | exact HB.out))) : w.heap.size ≤ gb101)); clear HB; have HB := n0_; have BK101 := n1_; have GW101 := n2_; have GE101 := n3_; clear n0_ n1_ n2_ n3_; clear hb hbox hg; have hcz14_0 : w13.cell? ⟨gb101, 0, none⟩ = some (.string a0_0) := (blk_cell BK101.out 0).trans rfl; have hcz14_1 : w13.cell? ⟨gb101, 1, none⟩ = some (.string a0_1) := (blk_cell BK101.out 1).trans rfl; have hcz14_2 : w13.cell? ⟨gb101, 2, none⟩ = some (.slice A0_2 l0_2.length c0_2) := (blk_cell BK101.out 2).trans rfl; have hcz14_3 : w13.cell? ⟨gb101, 3, none⟩ = some (.slice A0_3 l0_3.length c0_3) := (blk_cell BK101.out 3).trans rfl; have hfz14_0 := blk_frozen BK101.out 0; have hfz14_1 := blk_frozen BK101.out 1; have hfz14_2 := blk_frozen BK101.out 2; have hfz14_3 := blk_frozen BK101.out 3) | (go_at_call 12; (with_reducible refine (spec_GoodMeeting.calls a0_0 a0_1 _ _ l0_2 _ _ l0_3 true _ ?side1 ?side2 ?side3 ?side4 A3.out).mono ?_); (case side1 => repeat (first | exact (Kd.C_below HR0_2.out HB.out) | (with_reducible refine Kd.C_alloc ?_ _) | (with_reducible refine Kd.C_drewN ?_ _) | (with_reducible refine Kd.C_drew ?_))); (case side2 => exact HC0_2.out); (case side3 => repeat (first | exact (Kd.C_below HR0_3.out HB.out) | (with_reducible refine Kd.C_alloc ?_ _) | (with_reducible refine Kd.C_drewN ?_ _) | (with_reducible refine Kd.C_drew ?_))); (case side4 => exact HC0_3.out); rintro e w15 ⟨rfl, hb⟩; have n0_ := mz (blk_below (g := gb101) (o := .cells #[.string a0_0, .string a0_1, .slice A0_2 l0_2.length c0_2, .slice A0_3 l0_3.length c0_3] 27 (0, 0)) (by (with_reducible repeat (first | refine blk_drewN ?_ _ | refine blk_drew ?_ | refine blk_alloc ?_ _)); exact BK101.out) hb); have n1_ := mz (below_step (by repeat (first | (with_reducible first | exact HB.out | apply below_alloc | apply pw_below_drewN | apply below_drew1 | refine below_set ?_ GE101.out) | exact HB.out)) hb); clear BK101; clear HB; have BK101 := n0_; have HB := n1_; clear n0_ n1_; (try clear hb); (try clear hb2); (try clear hk); (try clear hi); have hcz16_0 : w15.cell? ⟨gb101, 0, none⟩ = some (.string a0_0) := (blk_cell BK101.out 0).trans rfl; have hcz16_1 : w15.cell? ⟨gb101, 1, none⟩ = some (.string a0_1) := (blk_cell BK101.out 1).trans rfl; have hcz16_2 : w15.cell? ⟨gb101, 2, none⟩ = some (.slice A0_2 l0_2.length c0_2) := (blk_cell BK101.out 2).trans rfl; have hcz16_3 : w15.cell? ⟨gb101, 3, none⟩ = some (.slice A0_3 l0_3.length c0_3) := (blk_cell BK101.out 3).trans rfl; have hfz16_0 := blk_frozen BK101.out 0; have hfz16_1 := blk_frozen BK101.out 1; have hfz16_2 := blk_frozen BK101.out 2; have hfz16_3 := blk_frozen BK101.out 3) | (go_at_call 18; (with_reducible refine (spec_l1In.calls a1 0 (wrap64 ((l0_3.length : Int) - 1)) false _ A5.out).mono ?_); rintro e w' ⟨rfl, ⟨nd, rfl⟩⟩; (try first | exact ⟨rfl, _, World.drewN_drewN _ _ _⟩ | exact ⟨rfl, _, Eq.trans (World.drewN_drewN _ _ _) (congrArg (World.drewN _) (Nat.add_assoc _ _ _))⟩))); try go_wp2_with (first | ((with_reducible refine gate_dst (N := 2) rfl ?_); (try (refine gate_guard (by rfl) ?_; dsimp only)); refine box_event ?hg (N := 2) ?hd (cs := #[.string a0_0, .string a0_1, .slice A0_2 l0_2.length c0_2, .slice A0_3 l0_3.length c0_3]) (t := 27) ?hr ?_; (case hd => rfl); (case hg => rfl); (case hr => first | (go_simp; done) | (go_simp; rfl)); intro gb101 hg w13 hbox hb; have n0_ := mz (below_step (by repeat (first | (with_reducible first | exact HB.out | apply below_alloc | apply pw_below_drewN | apply below_drew1) | exact HB.out)) hb); have n1_ := mz (hbox); have n2_ := mz ((by rw [hg]; exact (below_size (by repeat (first | (with_reducible first | exact HB.out | apply below_alloc | apply pw_below_drewN | apply below_drew1) | exact HB.out))) : w.heap.size ≤ gb101)); have n3_ := mz ((by rw [hg]; exact (below_size (by repeat (first | (with_reducible first | exact HB.out | apply below_alloc | apply pw_below_drewN | apply below_drew1) | exact HB.out))) : w.heap.size ≤ gb101)); clear HB; have HB := n0_; have BK101 := n1_; have GW101 := n2_; have GE101 := n3_; clear n0_ n1_ n2_ n3_; clear hb hbox hg; have hcz14_0 : w13.cell? ⟨gb101, 0, none⟩ = some (.string a0_0) := (blk_cell BK101.out 0).trans rfl; have hcz14_1 : w13.cell? ⟨gb101, 1, none⟩ = some (.string a0_1) := (blk_cell BK101.out 1).trans rfl; have hcz14_2 : w13.cell? ⟨gb101, 2, none⟩ = some (.slice A0_2 l0_2.length c0_2) := (blk_cell BK101.out 2).trans rfl; have hcz14_3 : w13.cell? ⟨gb101, 3, none⟩ = some (.slice A0_3 l0_3.length c0_3) := (blk_cell BK101.out 3).trans rfl; have hfz14_0 := blk_frozen BK101.out 0; have hfz14_1 := blk_frozen BK101.out 1; have hfz14_2 := blk_frozen BK101.out 2; have hfz14_3 := blk_frozen BK101.out 3) | (go_at_call 12; (with_reducible refine (spec_GoodMeeting.calls a0_0 a0_1 _ _ l0_2 _ _ l0_3 true _ ?side1 ?side2 ?side3 ?side4 A3.out).mono ?_); (case side1 => repeat (first | exact (Kd.C_below HR0_2.out HB.out) | (with_reducible refine Kd.C_alloc ?_ _) | (with_reducible refine Kd.C_drewN ?_ _) | (with_reducible refine Kd.C_drew ?_))); (case side2 => exact HC0_2.out); (case side3 => repeat (first | exact (Kd.C_below HR0_3.out HB.out) | (with_reducible refine Kd.C_alloc ?_ _) | (with_reducible refine Kd.C_drewN ?_ _) | (with_reducible refine Kd.C_drew ?_))); (case side4 => exact HC0_3.out); rintro e w15 ⟨rfl, hb⟩; have n0_ := mz (blk_below (g := gb101) (o := .cells #[.string a0_0, .string a0_1, .slice A0_2 l0_2.length c0_2, .slice A0_3 l0_3.length c0_3] 27 (0, 0)) (by (with_reducible repeat (first | refine blk_drewN ?_ _ | refine blk_drew ?_ | refine blk_alloc ?_ _)); exact BK101.out) hb); have n1_ := mz (below_step (by repeat (first | (with_reducible first | exact HB.out | apply below_alloc | apply pw_below_drewN | apply below_drew1 | refine below_set ?_ GE101.out) | exact HB.out)) hb); clear BK101; clear HB; have BK101 := n0_; have HB := n1_; clear n0_ n1_; (try clear hb); (try clear hb2); (try clear hk); (try clear hi); have hcz16_0 : w15.cell? ⟨gb101, 0, none⟩ = some (.string a0_0) := (blk_cell BK101.out 0).trans rfl; have hcz16_1 : w15.cell? ⟨gb101, 1, none⟩ = some (.string a0_1) := (blk_cell BK101.out 1).trans rfl; have hcz16_2 : w15.cell? ⟨gb101, 2, none⟩ = some (.slice A0_2 l0_2.length c0_2) := (blk_cell BK101.out 2).trans rfl; have hcz16_3 : w15.cell? ⟨gb101, 3, none⟩ = some (.slice A0_3 l0_3.length c0_3) := (blk_cell BK101.out 3).trans rfl; have hfz16_0 := blk_frozen BK101.out 0; have hfz16_1 := blk_frozen BK101.out 1; have hfz16_2 := blk_frozen BK101.out 2; have hfz16_3 := blk_frozen BK101.out 3) | (go_at_call 18; (with_reducible refine (spec_l1In.calls a1 0 (wrap64 ((l0_3.length : Int) - 1)) false _ A5.out).mono ?_); rintro e w' ⟨rfl, ⟨nd, rfl⟩⟩; (try first | exact ⟨rfl, _, World.drewN_drewN _ _ _⟩ | exact ⟨rfl, _, Eq.trans (World.drewN_drewN _ _ _) (congrArg (World.drewN _) (Nat.add_assoc _ _ _))⟩))))
      go_ret2
      exact ⟨by first | rfl | (simp [errW_none, errW_some] <;> rfl) | (simp [*, errW_none, errW_some] <;> rfl), by repeat (first | (with_reducible first | exact HB.out | apply below_alloc | apply pw_below_drewN | apply below_drew1 | refine below_set ?_ GE101.out) | exact HB.out)⟩
  · replace c4 := Bool.eq_false_iff.mpr c4
    subst c4
    have H1 : (some (false, false)) = some (r1, r2) := by rw [if_neg (show ¬ (false = true) by decide)] at H; exact H
    clear H
    have H := H1
    clear H1
    simp only [Option.some.injEq, Prod.mk.injEq] at H
    obtain ⟨rfl, rfl⟩ := H
    go_enter Try.func15, Try.ntmps15
    go_wp2_with (first | ((with_reducible refine gate_dst (N := 2) rfl ?_); (try (refine gate_guard (by rfl) ?_; dsimp only)); refine box_event ?hg (N := 2) ?hd (cs := #[.string a0_0, .string a0_1, .slice A0_2 l0_2.length c0_2, .slice A0_3 l0_3.length c0_3]) (t := 27) ?hr ?_; (case hd => rfl); (case hg => rfl); (case hr => first | (go_simp; done) | (go_simp; rfl)); intro gb101 hg w17 hbox hb; have n0_ := mz (below_step (by repeat (first | (with_reducible first | exact HB.out | apply below_alloc | apply pw_below_drewN | apply below_drew1) | exact HB.out)) hb); have n1_ := mz (hbox); have n2_ := mz ((by rw [hg]; exact (below_size (by repeat (first | (with_reducible first | exact HB.out | apply below_alloc | apply pw_below_drewN | apply below_drew1) | exact HB.out))) : w.heap.size ≤ gb101)); have n3_ := mz ((by rw [hg]; exact (below_size (by repeat (first | (with_reducible first | exact HB.out | apply below_alloc | apply pw_below_drewN | apply below_drew1) | exact HB.out))) : w.heap.size ≤ gb101)); clear HB; have HB := n0_; have BK101 := n1_; have GW101 := n2_; have GE101 := n3_; clear n0_ n1_ n2_ n3_; clear hb hbox hg; have hcz18_0 : w17.cell? ⟨gb101, 0, none⟩ = some (.string a0_0) := (blk_cell BK101.out 0).trans rfl; have hcz18_1 : w17.cell? ⟨gb101, 1, none⟩ = some (.string a0_1) := (blk_cell BK101.out 1).trans rfl; have hcz18_2 : w17.cell? ⟨gb101, 2, none⟩ = some (.slice A0_2 l0_2.length c0_2) := (blk_cell BK101.out 2).trans rfl; have hcz18_3 : w17.cell? ⟨gb101, 3, none⟩ = some (.slice A0_3 l0_3.length c0_3) := (blk_cell BK101.out 3).trans rfl; have hfz18_0 := blk_frozen BK101.out 0; have hfz18_1 := blk_frozen BK101.out 1; have hfz18_2 := blk_frozen BK101.out 2; have hfz18_3 := blk_frozen BK101.out 3) | (go_at_call 12; (with_reducible refine (spec_GoodMeeting.calls a0_0 a0_1 _ _ l0_2 _ _ l0_3 false _ ?side1 ?side2 ?side3 ?side4 A3.out).mono ?_); (case side1 => repeat (first | exact (Kd.C_below HR0_2.out HB.out) | (with_reducible refine Kd.C_alloc ?_ _) | (with_reducible refine Kd.C_drewN ?_ _) | (with_reducible refine Kd.C_drew ?_))); (case side2 => exact HC0_2.out); (case side3 => repeat (first | exact (Kd.C_below HR0_3.out HB.out) | (with_reducible refine Kd.C_alloc ?_ _) | (with_reducible refine Kd.C_drewN ?_ _) | (with_reducible refine Kd.C_drew ?_))); (case side4 => exact HC0_3.out); rintro e w19 ⟨rfl, hb⟩; have n0_ := mz (blk_below (g := gb101) (o := .cells #[.string a0_0, .string a0_1, .slice A0_2 l0_2.length c0_2, .slice A0_3 l0_3.length c0_3] 27 (0, 0)) (by (with_reducible repeat (first | refine blk_drewN ?_ _ | refine blk_drew ?_ | refine blk_alloc ?_ _)); exact BK101.out) hb); have n1_ := mz (below_step (by repeat (first | (with_reducible first | exact HB.out | apply below_alloc | apply pw_below_drewN | apply below_drew1 | refine below_set ?_ GE101.out) | exact HB.out)) hb); clear BK101; clear HB; have BK101 := n0_; have HB := n1_; clear n0_ n1_; (try clear hb); (try clear hb2); (try clear hk); (try clear hi)))
    repeat (go_quiet (first | ((with_reducible refine gate_dst (N := 2) rfl ?_); (try (refine gate_guard (by rfl) ?_; dsimp only)); refine box_event ?hg (N := 2) ?hd (cs := #[.string a0_0, .string a0_1, .slice A0_2 l0_2.length c0_2, .slice A0_3 l0_3.length c0_3]) (t := 27) ?hr ?_; (case hd => rfl); (case hg => rfl); (case hr => first | (go_simp; done) | (go_simp; rfl)); intro gb101 hg w17 hbox hb; have n0_ := mz (below_step (by repeat (first | (with_reducible first | exact HB.out | apply below_alloc | apply pw_below_drewN | apply below_drew1) | exact HB.out)) hb); have n1_ := mz (hbox); have n2_ := mz ((by rw [hg]; exact (below_size (by repeat (first | (with_reducible first | exact HB.out | apply below_alloc | apply pw_below_drewN | apply below_drew1) | exact HB.out))) : w.heap.size ≤ gb101)); have n3_ := mz ((by rw [hg]; exact (below_size (by repeat (first | (with_reducible first | exact HB.out | apply below_alloc | apply pw_below_drewN | apply below_drew1) | exact HB.out))) : w.heap.size ≤ gb101)); clear HB; have HB := n0_; have BK101 := n1_; have GW101 := n2_; have GE101 := n3_; clear n0_ n1_ n2_ n3_; clear hb hbox hg; have hcz18_0 : w17.cell? ⟨gb101, 0, none⟩ = some (.string a0_0) := (blk_cell BK101.out 0).trans rfl; have hcz18_1 : w17.cell? ⟨gb101, 1, none⟩ = some (.string a0_1) := (blk_cell BK101.out 1).trans rfl; have hcz18_2 : w17.cell? ⟨gb101, 2, none⟩ = some (.slice A0_2 l0_2.length c0_2) := (blk_cell BK101.out 2).trans rfl; have hcz18_3 : w17.cell? ⟨gb101, 3, none⟩ = some (.slice A0_3 l0_3.length c0_3) := (blk_cell BK101.out 3).trans rfl; have hfz18_0 := blk_frozen BK101.out 0; have hfz18_1 := blk_frozen BK101.out 1; have hfz18_2 := blk_frozen BK101.out 2; have hfz18_3 := blk_frozen BK101.out 3) | (go_at_call 12; (with_reducible refine (spec_GoodMeeting.calls a0_0 a0_1 _ _ l0_2 _ _ l0_3 false _ ?side1 ?side2 ?side3 ?side4 A3.out).mono ?_); (case side1 => repeat (first | exact (Kd.C_below HR0_2.out HB.out) | (with_reducible refine Kd.C_alloc ?_ _) | (with_reducible refine Kd.C_drewN ?_ _) | (with_reducible refine Kd.C_drew ?_))); (case side2 => exact HC0_2.out); (case side3 => repeat (first | exact (Kd.C_below HR0_3.out HB.out) | (with_reducible refine Kd.C_alloc ?_ _) | (with_reducible refine Kd.C_drewN ?_ _) | (with_reducible refine Kd.C_drew ?_))); (case side4 => exact HC0_3.out); rintro e w19 ⟨rfl, hb⟩; have n0_ := mz (blk_below (g := gb101) (o := .cells #[.string a0_0, .string a0_1, .slice A0_2 l0_2.length c0_2, .slice A0_3 l0_3.length c0_3] 27 (0, 0)) (by (with_reducible repeat (first | refine blk_drewN ?_ _ | refine blk_drew ?_ | refine blk_alloc ?_ _)); exact BK101.out) hb); have n1_ := mz (below_step (by repeat (first | (with_reducible first | exact HB.out | apply below_alloc | apply pw_below_drewN | apply below_drew1 | refine below_set ?_ GE101.out) | exact HB.out)) hb); clear BK101; clear HB; have BK101 := n0_; have HB := n1_; clear n0_ n1_; (try clear hb); (try clear hb2); (try clear hk); (try clear hi))); try go_wp2_with (first | ((with_reducible refine gate_dst (N := 2) rfl ?_); (try (refine gate_guard (by rfl) ?_; dsimp only)); refine box_event ?hg (N := 2) ?hd (cs := #[.string a0_0, .string a0_1, .slice A0_2 l0_2.length c0_2, .slice A0_3 l0_3.length c0_3]) (t := 27) ?hr ?_; (case hd => rfl); (case hg => rfl); (case hr => first | (go_simp; done) | (go_simp; rfl)); intro gb101 hg w17 hbox hb; have n0_ := mz (below_step (by repeat (first | (with_reducible first | exact HB.out | apply below_alloc | apply pw_below_drewN | apply below_drew1) | exact HB.out)) hb); have n1_ := mz (hbox); have n2_ := mz ((by rw [hg]; exact (below_size (by repeat (first | (with_reducible first | exact HB.out | apply below_alloc | apply pw_below_drewN | apply below_drew1) | exact HB.out))) : w.heap.size ≤ gb101)); have n3_ := mz ((by rw [hg]; exact (below_size (by repeat (first | (with_reducible first | exact HB.out | apply below_alloc | apply pw_below_drewN | apply below_drew1) | exact HB.out))) : w.heap.size ≤ gb101)); clear HB; have HB := n0_; have BK101 := n1_; have GW101 := n2_; have GE101 := n3_; clear n0_ n1_ n2_ n3_; clear hb hbox hg; have hcz18_0 : w17.cell? ⟨gb101, 0, none⟩ = some (.string a0_0) := (blk_cell BK101.out 0).trans rfl; have hcz18_1 : w17.cell? ⟨gb101, 1, none⟩ = some (.string a0_1) := (blk_cell BK101.out 1).trans rfl; have hcz18_2 : w17.cell? ⟨gb101, 2, none⟩ = some (.slice A0_2 l0_2.length c0_2) := (blk_cell BK101.out 2).trans rfl; have hcz18_3 : w17.cell? ⟨gb101, 3, none⟩ = some (.slice A0_3 l0_3.length c0_3) := (blk_cell BK101.out 3).trans rfl; have hfz18_0 := blk_frozen BK101.out 0; have hfz18_1 := blk_frozen BK101.out 1; have hfz18_2 := blk_frozen BK101.out 2; have hfz18_3 := blk_frozen BK101.out 3) | (go_at_call 12; (with_reducible refine (spec_GoodMeeting.calls a0_0 a0_1 _ _ l0_2 _ _ l0_3 false _ ?side1 ?side2 ?side3 ?side4 A3.out).mono ?_); (case side1 => repeat (first | exact (Kd.C_below HR0_2.out HB.out) | (with_reducible refine Kd.C_alloc ?_ _) | (with_reducible refine Kd.C_drewN ?_ _) | (with_reducible refine Kd.C_drew ?_))); (case side2 => exact HC0_2.out); (case side3 => repeat (first | exact (Kd.C_below HR0_3.out HB.out) | (with_reducible refine Kd.C_alloc ?_ _) | (with_reducible refine Kd.C_drewN ?_ _) | (with_reducible refine Kd.C_drew ?_))); (case side4 => exact HC0_3.out); rintro e w19 ⟨rfl, hb⟩; have n0_ := mz (blk_below (g := gb101) (o := .cells #[.string a0_0, .string a0_1, .slice A0_2 l0_2.length c0_2, .slice A0_3 l0_3.length c0_3] 27 (0, 0)) (by (with_reducible repeat (first | refine blk_drewN ?_ _ | refine blk_drew ?_ | refine blk_alloc ?_ _)); exact BK101.out) hb); have n1_ := mz (below_step (by repeat (first | (with_reducible first | exact HB.out | apply below_alloc | apply pw_below_drewN | apply below_drew1 | refine below_set ?_ GE101.out) | exact HB.out)) hb); clear BK101; clear HB; have BK101 := n0_; have HB := n1_; clear n0_ n1_; (try clear hb); (try clear hb2); (try clear hk); (try clear hi))))
    go_ret2
    exact ⟨by first | rfl | (simp [errW_none, errW_some] <;> rfl) | (simp [*, errW_none, errW_some] <;> rfl), by repeat (first | (with_reducible first | exact HB.out | apply below_alloc | apply pw_below_drewN | apply below_drew1 | refine below_set ?_ GE101.out) | exact HB.out)⟩
end
set_option maxHeartbeats 8000000 in
set_option maxRecDepth 100000 in
theorem goodMeeting_walk (a t : ByteArray) (A : Option Addr) (c : Nat) (l : List Entry) (A3 : Option Addr) (c3 : Nat) (cs : List Client) (w : World) (hr : Kd.C k67 w A l.length l) (hc : l.length ≤ c) (hs : sizedL l = true) (ha : a.size ≤ maxLen) (hr3 : Kd.C k51 w A3 cs.length cs) (hc3 : cs.length ≤ c3) (hs3 : sizedC cs = true) :
    Calls Try.prog 14 #[.agg #[.string a, .string t, .slice A l.length c, .slice A3 cs.length c3]] w fun e w' => e = .returned (.bool (goodM a t l cs)) ∧ Below w.heap.size w w' := by
  have HR := mz hr
  have HC := mz hc
  have HS := mz hs
  have HA := mz ha
  have HR3 := mz hr3
  have HC3 := mz hc3
  have HS3 := mz hs3
  have hl3 : cs.length ≤ 9223372036854775807 := hr3.2.1
  have HL3 := mz hl3
  clear hr hc hs ha hr3 hc3 hs3 hl3
  cases hg : goodB a t l with
  | false =>
    have hres : goodM a t l cs = false := by simp [goodM, hg]
    rw [hres]
    have HG := mz hg
    clear hres hg
    go_enter Try.func14, Try.ntmps14
    go_wp2_with ((with_reducible refine gate_dst (N := 1) rfl ?_); refine bx 1 #[.string a, .string t, .slice A l.length c, .slice A3 cs.length c3] 27 ?_; intro gm hgm w1 hbox hb1; have HB1 := mz hb1; have BM := mz hbox; obtain ⟨x0, x1, x2, x3⟩ := cells4 hbox; clear hgm hbox hb1)
    refine (goodServer_walk a t A c l w1 (Kd.C_below HR.out HB1.out) HC.out HS.out HA.out).mono ?_
    rintro e w2 ⟨rfl, hb2⟩
    have HB2 := mz (below_step HB1.out hb2)
    have BM2 := mz (blk_below BM.out hb2)
    clear x0 x1 x2 x3 hb2
    obtain ⟨x0, x1, x2, x3⟩ := cells4 BM2.out
    rw [HG.out]
    go_wp2_with fail
    go_ret
    exact ⟨rfl, HB2.out⟩
  | true =>
    have HG := mz hg
    clear hg
    by_cases n1 : (cs.length : Int) < 1
    · have hres : goodM a t l cs = false := by simp [goodM, HG.out, show ¬ 1 ≤ cs.length by omega]
      rw [hres]
      clear hres
      go_enter Try.func14, Try.ntmps14
      go_wp2_with ((with_reducible refine gate_dst (N := 1) rfl ?_); refine bx 1 #[.string a, .string t, .slice A l.length c, .slice A3 cs.length c3] 27 ?_; intro gm hgm w1 hbox hb1; have HB1 := mz hb1; have BM := mz hbox; obtain ⟨x0, x1, x2, x3⟩ := cells4 hbox; clear hgm hbox hb1)
      refine (goodServer_walk a t A c l w1 (Kd.C_below HR.out HB1.out) HC.out HS.out HA.out).mono ?_
      rintro e w2 ⟨rfl, hb2⟩
      have HB2 := mz (below_step HB1.out hb2)
      have BM2 := mz (blk_below BM.out hb2)
      clear x0 x1 x2 x3 hb2
      obtain ⟨x0, x1, x2, x3⟩ := cells4 BM2.out
      rw [HG.out]
      go_wp2_with fail
      go_ret
      exact ⟨rfl, HB2.out⟩
    by_cases n4 : (4 : Int) < (cs.length : Int)
    · have hres : goodM a t l cs = false := by simp [goodM, HG.out, show ¬ cs.length ≤ 4 by omega]
      rw [hres]
      clear hres
      go_enter Try.func14, Try.ntmps14
      go_wp2_with ((with_reducible refine gate_dst (N := 1) rfl ?_); refine bx 1 #[.string a, .string t, .slice A l.length c, .slice A3 cs.length c3] 27 ?_; intro gm hgm w1 hbox hb1; have HB1 := mz hb1; have BM := mz hbox; obtain ⟨x0, x1, x2, x3⟩ := cells4 hbox; clear hgm hbox hb1)
      refine (goodServer_walk a t A c l w1 (Kd.C_below HR.out HB1.out) HC.out HS.out HA.out).mono ?_
      rintro e w2 ⟨rfl, hb2⟩
      have HB2 := mz (below_step HB1.out hb2)
      have BM2 := mz (blk_below BM.out hb2)
      clear x0 x1 x2 x3 hb2
      obtain ⟨x0, x1, x2, x3⟩ := cells4 BM2.out
      rw [HG.out]
      go_wp2_with fail
      go_ret
      exact ⟨rfl, HB2.out⟩
    have HV : Aside0 (goodM a t l cs = cliFrom a l cs 0) := ⟨by simp [goodM, HG.out, show 1 ≤ cs.length by omega, show cs.length ≤ 4 by omega]⟩
    go_enter Try.func14, Try.ntmps14
    go_wp2_with ((with_reducible refine gate_dst (N := 1) rfl ?_); refine bx 1 #[.string a, .string t, .slice A l.length c, .slice A3 cs.length c3] 27 ?_; intro gm hgm w1 hbox hb1; have HB1 := mz hb1; have BM := mz hbox; obtain ⟨x0, x1, x2, x3⟩ := cells4 hbox; clear hgm hbox hb1)
    refine (goodServer_walk a t A c l w1 (Kd.C_below HR.out HB1.out) HC.out HS.out HA.out).mono ?_
    rintro e w2 ⟨rfl, hb2⟩
    have HB2 := mz (below_step HB1.out hb2)
    have BM2 := mz (blk_below BM.out hb2)
    clear x0 x1 x2 x3 hb2
    obtain ⟨x0, x1, x2, x3⟩ := cells4 BM2.out
    rw [HG.out]
    clear BM
    go_wp2_with fail
    go_loopg [24] cs.length (fun gg z24 wr => ∃ kk : Nat, kk ≤ cs.length ∧ cs.length - kk ≤ gg ∧ z24 = .int .i64 kk ∧ Aside0 (Below w2.heap.size w2 wr) ∧ Aside0 (cliFrom a l cs 0 = cliFrom a l (cs.drop kk) kk))
    case atStart => exact ⟨0, Nat.zero_le _, by omega, rfl, ⟨Below.refl _ _⟩, ⟨by rw [List.drop_zero]⟩⟩
    case round =>
      clear x0 x1 x2 x3
      obtain ⟨kk, hkk, hgg, rfl, BW, SV⟩ := hrel
      by_cases hlt : kk < cs.length
      · have hltz : (kk : Int) < (cs.length : Int) := by omega
        obtain ⟨ad, A5, c5, A6, c6, e1, hx0, hx1, hx2, hx3, hx4, hx5, hx6, hx7, hl5, hi5, hl6, hi6⟩ := at_T51 (Kd.C_below HR3.out (below_step HB2.out BW.out)) (kk : Int) (by omega) hltz
        subst e1
        have hsz := sizedC_of HS3.out cs[kk] (List.getElem_mem hlt)
        rw [rd_client cs kk hlt] at hx0 hx1 hx2 hx3 hx4 hx5 hx6 hx7 hl5 hi5 hl6 hi6
        rw [Int.toNat_natCast] at hx0 hx1 hx2 hx3 hx4 hx5 hx6 hx7
        have SV2 := SV.out
        rw [List.drop_eq_getElem_cons hlt, cliFrom] at SV2
        clear SV
        generalize cs[kk] = y at hx0 hx1 hx2 hx3 hx4 hx5 hx6 hx7 hl5 hi5 hl6 hi6 SV2 hsz
        have hKC := impl_isClient_ev y hsz.1 hsz.2.1 hsz.2.2
        have SV := mz SV2
        have H5 := mz hi5
        have HC5 := mz hl5
        have H6 := mz hi6
        have HC6 := mz hl6
        have HSZ := mz hsz
        clear SV2 hi5 hl5 hi6 hl6 hsz
        cases hid : (y.f0 == (kk : Int)) with
        | false =>
          have hne : (y.f0 != (kk : Int)) = true := by simpa using hid
          have HF : Aside0 (cliFrom a l cs 0 = false) := ⟨by rw [SV.out, hid]; rfl⟩
          clear SV hKC hid
          go_upto_region 6 with ((with_reducible refine gate_dst (N := 4) rfl ?_); refine bx 4 #[.int .i64 0, .string ⟨#[]⟩, .int .i64 0, .int .i64 0, .bool false, .slice none 0 0, .slice none 0 0, .bool false] 51 ?_; intro gc hgc w3 hbox hb3; have HB3 := mz hb3; have BC3 := mz hbox; have G3 : Aside0 (wr.heap.size ≤ gc) := ⟨by rw [hgc]; first | exact Nat.le_refl _ | simp⟩; obtain ⟨z0, z1, z2, z3, z4, z5, z6, z7⟩ := cells8 hbox; obtain ⟨f0, f1, f2, f3, f4, f5, f6, f7⟩ := froz8 hbox; clear hb3 hbox hgc)
          obtain ⟨BC4, HB4⟩ := fill8 (v0 := .int .i64 y.f0) (v1 := .string y.f1) (v2 := .int .i64 y.f2) (v3 := .int .i64 y.f3) (v4 := .bool y.f4) (v5 := .slice A5 y.f5.length c5) (v6 := .slice A6 y.f6.length c6) (v7 := .bool y.f7) HB3.out G3.out BC3.out
          clear z0 z1 z2 z3 z4 z5 z6 z7 f0 f1 f2 f3 f4 f5 f6 f7 hx0 hx1 hx2 hx3 hx4 hx5 hx6 hx7 BC3 HB3 G3
          generalize (((((((w3.setCell ⟨gc, 0, none⟩ (.int .i64 y.f0)).setCell ⟨gc, 1, none⟩ (.string y.f1)).setCell ⟨gc, 2, none⟩ (.int .i64 y.f2)).setCell ⟨gc, 3, none⟩ (.int .i64 y.f3)).setCell ⟨gc, 4, none⟩ (.bool y.f4)).setCell ⟨gc, 5, none⟩ (.slice A5 y.f5.length c5)).setCell ⟨gc, 6, none⟩ (.slice A6 y.f6.length c6)).setCell ⟨gc, 7, none⟩ (.bool y.f7) = w4 at BC4 HB4 ⊢
          have HB24 := mz (below_step BW.out HB4)
          have BM4 := mz (blk_below BM2.out HB24.out)
          have B4R := mz HB4
          have BC4 := mz BC4
          clear HB4
          obtain ⟨x0, x1, x2, x3⟩ := cells4 BM4.out
          obtain ⟨y0, y1, y2, y3, y4, y5, y6, y7⟩ := cells8 BC4.out
          go_wp2_with fail
          go_ret
          exact ⟨by rw [HV.out, HF.out]; rfl, below_step HB2.out HB24.out⟩
        | true =>
          have hne : (y.f0 != (kk : Int)) = false := by simpa using hid
          have SV2 : Aside0 (cliFrom a l cs 0 = ((clientB y && isAtV y a l) && cliFrom a l (cs.drop (kk + 1)) (kk + 1))) := ⟨by rw [SV.out, hid, Bool.true_and]⟩
          clear SV hid
          have HKC := mz hKC
          clear hKC
          cases hcb : clientB y with
          | false =>
            have HKC2 := HKC.out
            rw [hcb] at HKC2
            clear HKC
            have HKC := mz HKC2
            have HF : Aside0 (cliFrom a l cs 0 = false) := ⟨by rw [SV2.out, hcb]; rfl⟩
            clear SV2 HKC2 hcb
            go_upto_region 6 with ((with_reducible refine gate_dst (N := 4) rfl ?_); refine bx 4 #[.int .i64 0, .string ⟨#[]⟩, .int .i64 0, .int .i64 0, .bool false, .slice none 0 0, .slice none 0 0, .bool false] 51 ?_; intro gc hgc w3 hbox hb3; have HB3 := mz hb3; have BC3 := mz hbox; have G3 : Aside0 (wr.heap.size ≤ gc) := ⟨by rw [hgc]; first | exact Nat.le_refl _ | simp⟩; obtain ⟨z0, z1, z2, z3, z4, z5, z6, z7⟩ := cells8 hbox; obtain ⟨f0, f1, f2, f3, f4, f5, f6, f7⟩ := froz8 hbox; clear hb3 hbox hgc)
            obtain ⟨BC4, HB4⟩ := fill8 (v0 := .int .i64 y.f0) (v1 := .string y.f1) (v2 := .int .i64 y.f2) (v3 := .int .i64 y.f3) (v4 := .bool y.f4) (v5 := .slice A5 y.f5.length c5) (v6 := .slice A6 y.f6.length c6) (v7 := .bool y.f7) HB3.out G3.out BC3.out
            clear z0 z1 z2 z3 z4 z5 z6 z7 f0 f1 f2 f3 f4 f5 f6 f7 hx0 hx1 hx2 hx3 hx4 hx5 hx6 hx7 BC3 HB3 G3
            generalize (((((((w3.setCell ⟨gc, 0, none⟩ (.int .i64 y.f0)).setCell ⟨gc, 1, none⟩ (.string y.f1)).setCell ⟨gc, 2, none⟩ (.int .i64 y.f2)).setCell ⟨gc, 3, none⟩ (.int .i64 y.f3)).setCell ⟨gc, 4, none⟩ (.bool y.f4)).setCell ⟨gc, 5, none⟩ (.slice A5 y.f5.length c5)).setCell ⟨gc, 6, none⟩ (.slice A6 y.f6.length c6)).setCell ⟨gc, 7, none⟩ (.bool y.f7) = w4 at BC4 HB4 ⊢
            have HB24 := mz (below_step BW.out HB4)
            have BM4 := mz (blk_below BM2.out HB24.out)
            have B4R := mz HB4
            have BC4 := mz BC4
            clear HB4
            obtain ⟨x0, x1, x2, x3⟩ := cells4 BM4.out
            obtain ⟨y0, y1, y2, y3, y4, y5, y6, y7⟩ := cells8 BC4.out
            go_wp2_with fail
            refine (impl_isClient.calls y.f0 y.f1 y.f2 y.f3 y.f4 A5 c5 y.f5 A6 c6 y.f6 y.f7 false _ (Kd.C_below H5.out B4R.out) HC5.out (Kd.C_below H6.out B4R.out) HC6.out HKC.out).mono ?_
            rintro e w5 ⟨rfl, hb5⟩
            have HB25 := mz (below_step HB24.out hb5)
            have BM5 := mz (blk_below BM4.out hb5)
            have BC5 := mz (blk_below BC4.out hb5)
            have B5R := mz (below_step B4R.out hb5)
            clear x0 x1 x2 x3 y0 y1 y2 y3 y4 y5 y6 y7 hb5
            obtain ⟨x0, x1, x2, x3⟩ := cells4 BM5.out
            obtain ⟨y0, y1, y2, y3, y4, y5, y6, y7⟩ := cells8 BC5.out
            go_wp2_with fail
            go_ret
            exact ⟨by rw [HV.out, HF.out]; rfl, below_step HB2.out HB25.out⟩
          | true =>
            have HKC2 := HKC.out
            rw [hcb] at HKC2
            clear HKC
            have HKC := mz HKC2
            have SV3 : Aside0 (cliFrom a l cs 0 = (isAtV y a l && cliFrom a l (cs.drop (kk + 1)) (kk + 1))) := ⟨by rw [SV2.out, hcb, Bool.true_and]⟩
            have HCB := mz hcb
            clear SV2 HKC2 hcb
            go_upto_region 6 with ((with_reducible refine gate_dst (N := 4) rfl ?_); refine bx 4 #[.int .i64 0, .string ⟨#[]⟩, .int .i64 0, .int .i64 0, .bool false, .slice none 0 0, .slice none 0 0, .bool false] 51 ?_; intro gc hgc w3 hbox hb3; have HB3 := mz hb3; have BC3 := mz hbox; have G3 : Aside0 (wr.heap.size ≤ gc) := ⟨by rw [hgc]; first | exact Nat.le_refl _ | simp⟩; obtain ⟨z0, z1, z2, z3, z4, z5, z6, z7⟩ := cells8 hbox; obtain ⟨f0, f1, f2, f3, f4, f5, f6, f7⟩ := froz8 hbox; clear hb3 hbox hgc)
            obtain ⟨BC4, HB4⟩ := fill8 (v0 := .int .i64 y.f0) (v1 := .string y.f1) (v2 := .int .i64 y.f2) (v3 := .int .i64 y.f3) (v4 := .bool y.f4) (v5 := .slice A5 y.f5.length c5) (v6 := .slice A6 y.f6.length c6) (v7 := .bool y.f7) HB3.out G3.out BC3.out
            clear z0 z1 z2 z3 z4 z5 z6 z7 f0 f1 f2 f3 f4 f5 f6 f7 hx0 hx1 hx2 hx3 hx4 hx5 hx6 hx7 BC3 HB3 G3
            generalize (((((((w3.setCell ⟨gc, 0, none⟩ (.int .i64 y.f0)).setCell ⟨gc, 1, none⟩ (.string y.f1)).setCell ⟨gc, 2, none⟩ (.int .i64 y.f2)).setCell ⟨gc, 3, none⟩ (.int .i64 y.f3)).setCell ⟨gc, 4, none⟩ (.bool y.f4)).setCell ⟨gc, 5, none⟩ (.slice A5 y.f5.length c5)).setCell ⟨gc, 6, none⟩ (.slice A6 y.f6.length c6)).setCell ⟨gc, 7, none⟩ (.bool y.f7) = w4 at BC4 HB4 ⊢
            have HB24 := mz (below_step BW.out HB4)
            have BM4 := mz (blk_below BM2.out HB24.out)
            have B4R := mz HB4
            have BC4 := mz BC4
            clear HB4
            obtain ⟨x0, x1, x2, x3⟩ := cells4 BM4.out
            obtain ⟨y0, y1, y2, y3, y4, y5, y6, y7⟩ := cells8 BC4.out
            go_wp2_with fail
            refine (impl_isClient.calls y.f0 y.f1 y.f2 y.f3 y.f4 A5 c5 y.f5 A6 c6 y.f6 y.f7 true _ (Kd.C_below H5.out B4R.out) HC5.out (Kd.C_below H6.out B4R.out) HC6.out HKC.out).mono ?_
            rintro e w5 ⟨rfl, hb5⟩
            have HB25 := mz (below_step HB24.out hb5)
            have BM5 := mz (blk_below BM4.out hb5)
            have BC5 := mz (blk_below BC4.out hb5)
            have B5R := mz (below_step B4R.out hb5)
            clear x0 x1 x2 x3 y0 y1 y2 y3 y4 y5 y6 y7 hb5
            obtain ⟨x0, x1, x2, x3⟩ := cells4 BM5.out
            obtain ⟨y0, y1, y2, y3, y4, y5, y6, y7⟩ := cells8 BC5.out
            go_wp2_with fail
            refine (isAt_walk gc gm y A5 A6 c5 c6 a A c l w5 (fun W' hb => by obtain ⟨p0, p1, p2, p3, p4, p5, p6, p7⟩ := cells8 (blk_below BC5.out hb); obtain ⟨q0, q1, q2, q3⟩ := cells4 (blk_below BM5.out hb); exact ⟨p0, p1, p2, p3, p4, p5, p6, p7, q0, q2⟩) (Kd.C_below HR.out (below_step HB2.out HB25.out)) HC.out HS.out HA.out (Kd.C_below H5.out B5R.out) HC5.out (Kd.C_below H6.out B5R.out) HC6.out HSZ.out.2.1 HSZ.out.2.2 (clientB_of HCB.out).2.2.2.1).mono ?_
            rintro e w6 ⟨rfl, hb6⟩
            have HB26 := mz (below_step HB25.out hb6)
            clear x0 x1 x2 x3 y0 y1 y2 y3 y4 y5 y6 y7 hb6
            cases hat : isAtV y a l with
            | false =>
              have HF : Aside0 (cliFrom a l cs 0 = false) := ⟨by rw [SV3.out, hat]; rfl⟩
              go_wp2_with fail
              go_ret
              exact ⟨by rw [HV.out, HF.out]; rfl, below_step HB2.out HB26.out⟩
            | true =>
              have HF : Aside0 (cliFrom a l cs 0 = cliFrom a l (cs.drop (kk + 1)) (kk + 1)) := ⟨by rw [SV3.out, hat, Bool.true_and]⟩
              clear hat SV3
              go_wp2_with fail
              go_roundg (cs.length - (kk + 1))
              case measure => omega
              case rel => have hl64 := HL3.out; exact ⟨kk + 1, by omega, by omega, by (first | go_num | (congr 1; unfold wrap64; omega)), ⟨HB26.out⟩, ⟨HF.out⟩⟩
      · have hltz : ¬ (kk : Int) < (cs.length : Int) := by omega
        have HF : Aside0 (cliFrom a l cs 0 = true) := ⟨by rw [SV.out, List.drop_eq_nil_of_le (by omega)]; rfl⟩
        clear SV
        go_wp2_with fail
        go_ret
        exact ⟨by rw [HV.out, HF.out]; rfl, below_step HB2.out BW.out⟩

def impl_GoodMeeting.f (a0_0 : ByteArray) (a0_1 : ByteArray) (l0_2 : List (S67)) (l0_3 : List (S51)) : Option (Bool) := if sizedL l0_2 = true ∧ a0_0.size ≤ maxLen ∧ sizedC l0_3 = true then some (goodM a0_0 a0_1 l0_2 l0_3) else none
theorem impl_GoodMeeting.calls (a0_0 : ByteArray) (a0_1 : ByteArray) (A0_2 : Option Addr) (c0_2 : Nat) (l0_2 : List (S67)) (A0_3 : Option Addr) (c0_3 : Nat) (l0_3 : List (S51)) (r : Bool) (w : World) (hr0_2 : Kd.C k67 w A0_2 l0_2.length l0_2) (hc0_2 : l0_2.length ≤ c0_2) (hr0_3 : Kd.C k51 w A0_3 l0_3.length l0_3) (hc0_3 : l0_3.length ≤ c0_3) (h : impl_GoodMeeting.f a0_0 a0_1 l0_2 l0_3 = some r) :
    Calls Try.prog 14 #[.agg #[.string a0_0, .string a0_1, .slice A0_2 l0_2.length c0_2, .slice A0_3 l0_3.length c0_3]] w fun e w' => e = .returned (.bool r) ∧ Below w.heap.size w w' := by
  unfold impl_GoodMeeting.f at h
  by_cases hs : sizedL l0_2 = true ∧ a0_0.size ≤ maxLen ∧ sizedC l0_3 = true
  · rw [if_pos hs] at h
    obtain rfl := Option.some.inj h
    exact goodMeeting_walk a0_0 a0_1 A0_2 c0_2 l0_2 A0_3 c0_3 l0_3 w hr0_2 hc0_2 hs.1 hs.2.1 hr0_3 hc0_3 hs.2.2
  · rw [if_neg hs] at h
    exact absurd h (by simp)
section
attribute [local go_sem] max2_int min2_int max_two min_two max_three min_three max_four min_four
def impl_AgreesWith.f (a0_0 : ByteArray) (a0_1 : ByteArray) (l0_2 : List (S67)) (l0_3 : List (S51)) (a1 : Int) : Option (Bool × Bool) := (impl_GoodMeeting.f a0_0 a0_1 l0_2 l0_3).bind fun t102 => (if t102 = true then (if a1 < 0 then (some (false, false)) else (if a1 ≥ (l0_3.length : Int) then (some (false, false)) else (if 0 ≤ a1 then (if a1 < (l0_3.length : Int) then (some ((((rd_T51 l0_3 a1).f1).toList == a0_1.toList), true)) else (none)) else (none)))) else (some (false, false)))
set_option maxHeartbeats 8000000 in
set_option maxRecDepth 100000 in
theorem impl_AgreesWith.calls (a0_0 : ByteArray) (a0_1 : ByteArray) (A0_2 : Option Addr) (c0_2 : Nat) (l0_2 : List (S67)) (A0_3 : Option Addr) (c0_3 : Nat) (l0_3 : List (S51)) (a1 : Int) (r1 : Bool) (r2 : Bool) (w : World) (hr0_2 : Kd.C k67 w A0_2 l0_2.length l0_2) (hc0_2 : l0_2.length ≤ c0_2) (hr0_3 : Kd.C k51 w A0_3 l0_3.length l0_3) (hc0_3 : l0_3.length ≤ c0_3) (h : impl_AgreesWith.f a0_0 a0_1 l0_2 l0_3 a1 = some (r1, r2)) :
    Calls Try.prog 16 #[.agg #[.string a0_0, .string a0_1, .slice A0_2 l0_2.length c0_2, .slice A0_3 l0_3.length c0_3], .int .i64 a1] w fun e w' => e = .returned (.tuple #[.bool r1, .bool r2]) ∧ Below w.heap.size w w' := by
  have hu27 := Try.underlying27
  have HR0_2 := mz hr0_2
  have HC0_2 := mz hc0_2
  clear hr0_2 hc0_2
  have HR0_3 := mz hr0_3
  have HC0_3 := mz hc0_3
  clear hr0_3 hc0_3
  have HB := mz (Below.refl w.heap.size w)
  have H : ((impl_GoodMeeting.f a0_0 a0_1 l0_2 l0_3).bind fun t102 => (if t102 = true then (if a1 < 0 then (some (false, false)) else (if a1 ≥ (l0_3.length : Int) then (some (false, false)) else (if 0 ≤ a1 then (if a1 < (l0_3.length : Int) then (some ((((rd_T51 l0_3 a1).f1).toList == a0_1.toList), true)) else (none)) else (none)))) else (some (false, false)))) = some (r1, r2) := h
  clear h
  replace H := be0_ H
  obtain ⟨t102, A30, H⟩ := H
  replace H : (if t102 = true then (if a1 < 0 then (some (false, false)) else (if a1 ≥ (l0_3.length : Int) then (some (false, false)) else (if 0 ≤ a1 then (if a1 < (l0_3.length : Int) then (some ((((rd_T51 l0_3 a1).f1).toList == a0_1.toList), true)) else (none)) else (none)))) else (some (false, false))) = some (r1, r2) := H
  have A3 := mz A30
  clear A30
  by_cases c4 : t102 = true
  · subst c4
    have H1 : (if a1 < 0 then (some (false, false)) else (if a1 ≥ (l0_3.length : Int) then (some (false, false)) else (if 0 ≤ a1 then (if a1 < (l0_3.length : Int) then (some ((((rd_T51 l0_3 a1).f1).toList == a0_1.toList), true)) else (none)) else (none)))) = some (r1, r2) := by rw [if_pos rfl] at H; exact H
    clear H
    have H := H1
    clear H1
    by_cases c5 : a1 < 0
    · rw [if_pos c5] at H
      have c5b0 : decide (a1 < 0) = true := decide_eq_true c5
      clear c5
      simp only [Option.some.injEq, Prod.mk.injEq] at H
      obtain ⟨rfl, rfl⟩ := H
      go_enter Try.func16, Try.ntmps16
      go_wp2_with (first | ((with_reducible refine gate_dst (N := 2) rfl ?_); (try (refine gate_guard (by rfl) ?_; dsimp only)); refine box_event ?hg (N := 2) ?hd (cs := #[.string a0_0, .string a0_1, .slice A0_2 l0_2.length c0_2, .slice A0_3 l0_3.length c0_3]) (t := 27) ?hr ?_; (case hd => rfl); (case hg => rfl); (case hr => first | (go_simp; done) | (go_simp; rfl)); intro gb101 hg w6 hbox hb; have n0_ := mz (below_step (by repeat (first | (with_reducible first | exact HB.out | apply below_alloc | apply pw_below_drewN | apply below_drew1) | exact HB.out)) hb); have n1_ := mz (hbox); have n2_ := mz ((by rw [hg]; exact (below_size (by repeat (first | (with_reducible first | exact HB.out | apply below_alloc | apply pw_below_drewN | apply below_drew1) | exact HB.out))) : w.heap.size ≤ gb101)); have n3_ := mz ((by rw [hg]; exact (below_size (by repeat (first | (with_reducible first | exact HB.out | apply below_alloc | apply pw_below_drewN | apply below_drew1) | exact HB.out))) : w.heap.size ≤ gb101)); clear HB; have HB := n0_; have BK101 := n1_; have GW101 := n2_; have GE101 := n3_; clear n0_ n1_ n2_ n3_; clear hb hbox hg; have hcz7_0 : w6.cell? ⟨gb101, 0, none⟩ = some (.string a0_0) := (blk_cell BK101.out 0).trans rfl; have hcz7_1 : w6.cell? ⟨gb101, 1, none⟩ = some (.string a0_1) := (blk_cell BK101.out 1).trans rfl; have hcz7_2 : w6.cell? ⟨gb101, 2, none⟩ = some (.slice A0_2 l0_2.length c0_2) := (blk_cell BK101.out 2).trans rfl; have hcz7_3 : w6.cell? ⟨gb101, 3, none⟩ = some (.slice A0_3 l0_3.length c0_3) := (blk_cell BK101.out 3).trans rfl; have hfz7_0 := blk_frozen BK101.out 0; have hfz7_1 := blk_frozen BK101.out 1; have hfz7_2 := blk_frozen BK101.out 2; have hfz7_3 := blk_frozen BK101.out 3) | (go_at_call 14; (with_reducible refine (impl_GoodMeeting.calls a0_0 a0_1 _ _ l0_2 _ _ l0_3 true _ ?side1 ?side2 ?side3 ?side4 A3.out).mono ?_); (case side1 => repeat (first | exact (Kd.C_below HR0_2.out HB.out) | (with_reducible refine Kd.C_alloc ?_ _) | (with_reducible refine Kd.C_drewN ?_ _) | (with_reducible refine Kd.C_drew ?_))); (case side2 => exact HC0_2.out); (case side3 => repeat (first | exact (Kd.C_below HR0_3.out HB.out) | (with_reducible refine Kd.C_alloc ?_ _) | (with_reducible refine Kd.C_drewN ?_ _) | (with_reducible refine Kd.C_drew ?_))); (case side4 => exact HC0_3.out); rintro e w8 ⟨rfl, hb⟩; have n0_ := mz (blk_below (g := gb101) (o := .cells #[.string a0_0, .string a0_1, .slice A0_2 l0_2.length c0_2, .slice A0_3 l0_3.length c0_3] 27 (0, 0)) (by (with_reducible repeat (first | refine blk_drewN ?_ _ | refine blk_drew ?_ | refine blk_alloc ?_ _)); exact BK101.out) hb); have n1_ := mz (below_step (by repeat (first | (with_reducible first | exact HB.out | apply below_alloc | apply pw_below_drewN | apply below_drew1 | refine below_set ?_ GE101.out) | exact HB.out)) hb); clear BK101; clear HB; have BK101 := n0_; have HB := n1_; clear n0_ n1_; (try clear hb); (try clear hb2); (try clear hk); (try clear hi)))
      repeat (go_quiet (first | ((with_reducible refine gate_dst (N := 2) rfl ?_); (try (refine gate_guard (by rfl) ?_; dsimp only)); refine box_event ?hg (N := 2) ?hd (cs := #[.string a0_0, .string a0_1, .slice A0_2 l0_2.length c0_2, .slice A0_3 l0_3.length c0_3]) (t := 27) ?hr ?_; (case hd => rfl); (case hg => rfl); (case hr => first | (go_simp; done) | (go_simp; rfl)); intro gb101 hg w6 hbox hb; have n0_ := mz (below_step (by repeat (first | (with_reducible first | exact HB.out | apply below_alloc | apply pw_below_drewN | apply below_drew1) | exact HB.out)) hb); have n1_ := mz (hbox); have n2_ := mz ((by rw [hg]; exact (below_size (by repeat (first | (with_reducible first | exact HB.out | apply below_alloc | apply pw_below_drewN | apply below_drew1) | exact HB.out))) : w.heap.size ≤ gb101)); have n3_ := mz ((by rw [hg]; exact (below_size (by repeat (first | (with_reducible first | exact HB.out | apply below_alloc | apply pw_below_drewN | apply below_drew1) | exact HB.out))) : w.heap.size ≤ gb101)); clear HB; have HB := n0_; have BK101 := n1_; have GW101 := n2_; have GE101 := n3_; clear n0_ n1_ n2_ n3_; clear hb hbox hg; have hcz7_0 : w6.cell? ⟨gb101, 0, none⟩ = some (.string a0_0) := (blk_cell BK101.out 0).trans rfl; have hcz7_1 : w6.cell? ⟨gb101, 1, none⟩ = some (.string a0_1) := (blk_cell BK101.out 1).trans rfl; have hcz7_2 : w6.cell? ⟨gb101, 2, none⟩ = some (.slice A0_2 l0_2.length c0_2) := (blk_cell BK101.out 2).trans rfl; have hcz7_3 : w6.cell? ⟨gb101, 3, none⟩ = some (.slice A0_3 l0_3.length c0_3) := (blk_cell BK101.out 3).trans rfl; have hfz7_0 := blk_frozen BK101.out 0; have hfz7_1 := blk_frozen BK101.out 1; have hfz7_2 := blk_frozen BK101.out 2; have hfz7_3 := blk_frozen BK101.out 3) | (go_at_call 14; (with_reducible refine (impl_GoodMeeting.calls a0_0 a0_1 _ _ l0_2 _ _ l0_3 true _ ?side1 ?side2 ?side3 ?side4 A3.out).mono ?_); (case side1 => repeat (first | exact (Kd.C_below HR0_2.out HB.out) | (with_reducible refine Kd.C_alloc ?_ _) | (with_reducible refine Kd.C_drewN ?_ _) | (with_reducible refine Kd.C_drew ?_))); (case side2 => exact HC0_2.out); (case side3 => repeat (first | exact (Kd.C_below HR0_3.out HB.out) | (with_reducible refine Kd.C_alloc ?_ _) | (with_reducible refine Kd.C_drewN ?_ _) | (with_reducible refine Kd.C_drew ?_))); (case side4 => exact HC0_3.out); rintro e w8 ⟨rfl, hb⟩; have n0_ := mz (blk_below (g := gb101) (o := .cells #[.string a0_0, .string a0_1, .slice A0_2 l0_2.length c0_2, .slice A0_3 l0_3.length c0_3] 27 (0, 0)) (by (with_reducible repeat (first | refine blk_drewN ?_ _ | refine blk_drew ?_ | refine blk_alloc ?_ _)); exact BK101.out) hb); have n1_ := mz (below_step (by repeat (first | (with_reducible first | exact HB.out | apply below_alloc | apply pw_below_drewN | apply below_drew1 | refine below_set ?_ GE101.out) | exact HB.out)) hb); clear BK101; clear HB; have BK101 := n0_; have HB := n1_; clear n0_ n1_; (try clear hb); (try clear hb2); (try clear hk); (try clear hi))); try go_wp2_with (first | ((with_reducible refine gate_dst (N := 2) rfl ?_); (try (refine gate_guard (by rfl) ?_; dsimp only)); refine box_event ?hg (N := 2) ?hd (cs := #[.string a0_0, .string a0_1, .slice A0_2 l0_2.length c0_2, .slice A0_3 l0_3.length c0_3]) (t := 27) ?hr ?_; (case hd => rfl); (case hg => rfl); (case hr => first | (go_simp; done) | (go_simp; rfl)); intro gb101 hg w6 hbox hb; have n0_ := mz (below_step (by repeat (first | (with_reducible first | exact HB.out | apply below_alloc | apply pw_below_drewN | apply below_drew1) | exact HB.out)) hb); have n1_ := mz (hbox); have n2_ := mz ((by rw [hg]; exact (below_size (by repeat (first | (with_reducible first | exact HB.out | apply below_alloc | apply pw_below_drewN | apply below_drew1) | exact HB.out))) : w.heap.size ≤ gb101)); have n3_ := mz ((by rw [hg]; exact (below_size (by repeat (first | (with_reducible first | exact HB.out | apply below_alloc | apply pw_below_drewN | apply below_drew1) | exact HB.out))) : w.heap.size ≤ gb101)); clear HB; have HB := n0_; have BK101 := n1_; have GW101 := n2_; have GE101 := n3_; clear n0_ n1_ n2_ n3_; clear hb hbox hg; have hcz7_0 : w6.cell? ⟨gb101, 0, none⟩ = some (.string a0_0) := (blk_cell BK101.out 0).trans rfl; have hcz7_1 : w6.cell? ⟨gb101, 1, none⟩ = some (.string a0_1) := (blk_cell BK101.out 1).trans rfl; have hcz7_2 : w6.cell? ⟨gb101, 2, none⟩ = some (.slice A0_2 l0_2.length c0_2) := (blk_cell BK101.out 2).trans rfl; have hcz7_3 : w6.cell? ⟨gb101, 3, none⟩ = some (.slice A0_3 l0_3.length c0_3) := (blk_cell BK101.out 3).trans rfl; have hfz7_0 := blk_frozen BK101.out 0; have hfz7_1 := blk_frozen BK101.out 1; have hfz7_2 := blk_frozen BK101.out 2; have hfz7_3 := blk_frozen BK101.out 3) | (go_at_call 14; (with_reducible refine (impl_GoodMeeting.calls a0_0 a0_1 _ _ l0_2 _ _ l0_3 true _ ?side1 ?side2 ?side3 ?side4 A3.out).mono ?_); (case side1 => repeat (first | exact (Kd.C_below HR0_2.out HB.out) | (with_reducible refine Kd.C_alloc ?_ _) | (with_reducible refine Kd.C_drewN ?_ _) | (with_reducible refine Kd.C_drew ?_))); (case side2 => exact HC0_2.out); (case side3 => repeat (first | exact (Kd.C_below HR0_3.out HB.out) | (with_reducible refine Kd.C_alloc ?_ _) | (with_reducible refine Kd.C_drewN ?_ _) | (with_reducible refine Kd.C_drew ?_))); (case side4 => exact HC0_3.out); rintro e w8 ⟨rfl, hb⟩; have n0_ := mz (blk_below (g := gb101) (o := .cells #[.string a0_0, .string a0_1, .slice A0_2 l0_2.length c0_2, .slice A0_3 l0_3.length c0_3] 27 (0, 0)) (by (with_reducible repeat (first | refine blk_drewN ?_ _ | refine blk_drew ?_ | refine blk_alloc ?_ _)); exact BK101.out) hb); have n1_ := mz (below_step (by repeat (first | (with_reducible first | exact HB.out | apply below_alloc | apply pw_below_drewN | apply below_drew1 | refine below_set ?_ GE101.out) | exact HB.out)) hb); clear BK101; clear HB; have BK101 := n0_; have HB := n1_; clear n0_ n1_; (try clear hb); (try clear hb2); (try clear hk); (try clear hi))))
      go_ret2
      exact ⟨by first | rfl | (simp [errW_none, errW_some] <;> rfl) | (simp [*, errW_none, errW_some] <;> rfl), by repeat (first | (with_reducible first | exact HB.out | apply below_alloc | apply pw_below_drewN | apply below_drew1 | refine below_set ?_ GE101.out) | exact HB.out)⟩
    · rw [if_neg c5] at H
      have c5b0 : decide (a1 < 0) = false := decide_eq_false c5
      clear c5
      by_cases c9 : a1 ≥ (l0_3.length : Int)
      · rw [if_pos c9] at H
        have c9b0 : decide ((l0_3.length : Int) ≤ a1) = true := decide_eq_true c9
        clear c9
        simp only [Option.some.injEq, Prod.mk.injEq] at H
        obtain ⟨rfl, rfl⟩ := H
        go_enter Try.func16, Try.ntmps16
        go_wp2_with (first | ((with_reducible refine gate_dst (N := 2) rfl ?_); (try (refine gate_guard (by rfl) ?_; dsimp only)); refine box_event ?hg (N := 2) ?hd (cs := #[.string a0_0, .string a0_1, .slice A0_2 l0_2.length c0_2, .slice A0_3 l0_3.length c0_3]) (t := 27) ?hr ?_; (case hd => rfl); (case hg => rfl); (case hr => first | (go_simp; done) | (go_simp; rfl)); intro gb101 hg w10 hbox hb; have n0_ := mz (below_step (by repeat (first | (with_reducible first | exact HB.out | apply below_alloc | apply pw_below_drewN | apply below_drew1) | exact HB.out)) hb); have n1_ := mz (hbox); have n2_ := mz ((by rw [hg]; exact (below_size (by repeat (first | (with_reducible first | exact HB.out | apply below_alloc | apply pw_below_drewN | apply below_drew1) | exact HB.out))) : w.heap.size ≤ gb101)); have n3_ := mz ((by rw [hg]; exact (below_size (by repeat (first | (with_reducible first | exact HB.out | apply below_alloc | apply pw_below_drewN | apply below_drew1) | exact HB.out))) : w.heap.size ≤ gb101)); clear HB; have HB := n0_; have BK101 := n1_; have GW101 := n2_; have GE101 := n3_; clear n0_ n1_ n2_ n3_; clear hb hbox hg; have hcz11_0 : w10.cell? ⟨gb101, 0, none⟩ = some (.string a0_0) := (blk_cell BK101.out 0).trans rfl; have hcz11_1 : w10.cell? ⟨gb101, 1, none⟩ = some (.string a0_1) := (blk_cell BK101.out 1).trans rfl; have hcz11_2 : w10.cell? ⟨gb101, 2, none⟩ = some (.slice A0_2 l0_2.length c0_2) := (blk_cell BK101.out 2).trans rfl; have hcz11_3 : w10.cell? ⟨gb101, 3, none⟩ = some (.slice A0_3 l0_3.length c0_3) := (blk_cell BK101.out 3).trans rfl; have hfz11_0 := blk_frozen BK101.out 0; have hfz11_1 := blk_frozen BK101.out 1; have hfz11_2 := blk_frozen BK101.out 2; have hfz11_3 := blk_frozen BK101.out 3) | (go_at_call 14; (with_reducible refine (impl_GoodMeeting.calls a0_0 a0_1 _ _ l0_2 _ _ l0_3 true _ ?side1 ?side2 ?side3 ?side4 A3.out).mono ?_); (case side1 => repeat (first | exact (Kd.C_below HR0_2.out HB.out) | (with_reducible refine Kd.C_alloc ?_ _) | (with_reducible refine Kd.C_drewN ?_ _) | (with_reducible refine Kd.C_drew ?_))); (case side2 => exact HC0_2.out); (case side3 => repeat (first | exact (Kd.C_below HR0_3.out HB.out) | (with_reducible refine Kd.C_alloc ?_ _) | (with_reducible refine Kd.C_drewN ?_ _) | (with_reducible refine Kd.C_drew ?_))); (case side4 => exact HC0_3.out); rintro e w12 ⟨rfl, hb⟩; have n0_ := mz (blk_below (g := gb101) (o := .cells #[.string a0_0, .string a0_1, .slice A0_2 l0_2.length c0_2, .slice A0_3 l0_3.length c0_3] 27 (0, 0)) (by (with_reducible repeat (first | refine blk_drewN ?_ _ | refine blk_drew ?_ | refine blk_alloc ?_ _)); exact BK101.out) hb); have n1_ := mz (below_step (by repeat (first | (with_reducible first | exact HB.out | apply below_alloc | apply pw_below_drewN | apply below_drew1 | refine below_set ?_ GE101.out) | exact HB.out)) hb); clear BK101; clear HB; have BK101 := n0_; have HB := n1_; clear n0_ n1_; (try clear hb); (try clear hb2); (try clear hk); (try clear hi); have hcz13_0 : w12.cell? ⟨gb101, 0, none⟩ = some (.string a0_0) := (blk_cell BK101.out 0).trans rfl; have hcz13_1 : w12.cell? ⟨gb101, 1, none⟩ = some (.string a0_1) := (blk_cell BK101.out 1).trans rfl; have hcz13_2 : w12.cell? ⟨gb101, 2, none⟩ = some (.slice A0_2 l0_2.length c0_2) := (blk_cell BK101.out 2).trans rfl; have hcz13_3 : w12.cell? ⟨gb101, 3, none⟩ = some (.slice A0_3 l0_3.length c0_3) := (blk_cell BK101.out 3).trans rfl; have hfz13_0 := blk_frozen BK101.out 0; have hfz13_1 := blk_frozen BK101.out 1; have hfz13_2 := blk_frozen BK101.out 2; have hfz13_3 := blk_frozen BK101.out 3))
        repeat (go_quiet (first | ((with_reducible refine gate_dst (N := 2) rfl ?_); (try (refine gate_guard (by rfl) ?_; dsimp only)); refine box_event ?hg (N := 2) ?hd (cs := #[.string a0_0, .string a0_1, .slice A0_2 l0_2.length c0_2, .slice A0_3 l0_3.length c0_3]) (t := 27) ?hr ?_; (case hd => rfl); (case hg => rfl); (case hr => first | (go_simp; done) | (go_simp; rfl)); intro gb101 hg w10 hbox hb; have n0_ := mz (below_step (by repeat (first | (with_reducible first | exact HB.out | apply below_alloc | apply pw_below_drewN | apply below_drew1) | exact HB.out)) hb); have n1_ := mz (hbox); have n2_ := mz ((by rw [hg]; exact (below_size (by repeat (first | (with_reducible first | exact HB.out | apply below_alloc | apply pw_below_drewN | apply below_drew1) | exact HB.out))) : w.heap.size ≤ gb101)); have n3_ := mz ((by rw [hg]; exact (below_size (by repeat (first | (with_reducible first | exact HB.out | apply below_alloc | apply pw_below_drewN | apply below_drew1) | exact HB.out))) : w.heap.size ≤ gb101)); clear HB; have HB := n0_; have BK101 := n1_; have GW101 := n2_; have GE101 := n3_; clear n0_ n1_ n2_ n3_; clear hb hbox hg; have hcz11_0 : w10.cell? ⟨gb101, 0, none⟩ = some (.string a0_0) := (blk_cell BK101.out 0).trans rfl; have hcz11_1 : w10.cell? ⟨gb101, 1, none⟩ = some (.string a0_1) := (blk_cell BK101.out 1).trans rfl; have hcz11_2 : w10.cell? ⟨gb101, 2, none⟩ = some (.slice A0_2 l0_2.length c0_2) := (blk_cell BK101.out 2).trans rfl; have hcz11_3 : w10.cell? ⟨gb101, 3, none⟩ = some (.slice A0_3 l0_3.length c0_3) := (blk_cell BK101.out 3).trans rfl; have hfz11_0 := blk_frozen BK101.out 0; have hfz11_1 := blk_frozen BK101.out 1; have hfz11_2 := blk_frozen BK101.out 2; have hfz11_3 := blk_frozen BK101.out 3) | (go_at_call 14; (with_reducible refine (impl_GoodMeeting.calls a0_0 a0_1 _ _ l0_2 _ _ l0_3 true _ ?side1 ?side2 ?side3 ?side4 A3.out).mono ?_); (case side1 => repeat (first | exact (Kd.C_below HR0_2.out HB.out) | (with_reducible refine Kd.C_alloc ?_ _) | (with_reducible refine Kd.C_drewN ?_ _) | (with_reducible refine Kd.C_drew ?_))); (case side2 => exact HC0_2.out); (case side3 => repeat (first | exact (Kd.C_below HR0_3.out HB.out) | (with_reducible refine Kd.C_alloc ?_ _) | (with_reducible refine Kd.C_drewN ?_ _) | (with_reducible refine Kd.C_drew ?_))); (case side4 => exact HC0_3.out); rintro e w12 ⟨rfl, hb⟩; have n0_ := mz (blk_below (g := gb101) (o := .cells #[.string a0_0, .string a0_1, .slice A0_2 l0_2.length c0_2, .slice A0_3 l0_3.length c0_3] 27 (0, 0)) (by (with_reducible repeat (first | refine blk_drewN ?_ _ | refine blk_drew ?_ | refine blk_alloc ?_ _)); exact BK101.out) hb); have n1_ := mz (below_step (by repeat (first | (with_reducible first | exact HB.out | apply below_alloc | apply pw_below_drewN | apply below_drew1 | refine below_set ?_ GE101.out) | exact HB.out)) hb); clear BK101; clear HB; have BK101 := n0_; have HB := n1_; clear n0_ n1_; (try clear hb); (try clear hb2); (try clear hk); (try clear hi); have hcz13_0 : w12.cell? ⟨gb101, 0, none⟩ = some (.string a0_0) := (blk_cell BK101.out 0).trans rfl; have hcz13_1 : w12.cell? ⟨gb101, 1, none⟩ = some (.string a0_1) := (blk_cell BK101.out 1).trans rfl; have hcz13_2 : w12.cell? ⟨gb101, 2, none⟩ = some (.slice A0_2 l0_2.length c0_2) := (blk_cell BK101.out 2).trans rfl; have hcz13_3 : w12.cell? ⟨gb101, 3, none⟩ = some (.slice A0_3 l0_3.length c0_3) := (blk_cell BK101.out 3).trans rfl; have hfz13_0 := blk_frozen BK101.out 0; have hfz13_1 := blk_frozen BK101.out 1; have hfz13_2 := blk_frozen BK101.out 2; have hfz13_3 := blk_frozen BK101.out 3)); try go_wp2_with (first | ((with_reducible refine gate_dst (N := 2) rfl ?_); (try (refine gate_guard (by rfl) ?_; dsimp only)); refine box_event ?hg (N := 2) ?hd (cs := #[.string a0_0, .string a0_1, .slice A0_2 l0_2.length c0_2, .slice A0_3 l0_3.length c0_3]) (t := 27) ?hr ?_; (case hd => rfl); (case hg => rfl); (case hr => first | (go_simp; done) | (go_simp; rfl)); intro gb101 hg w10 hbox hb; have n0_ := mz (below_step (by repeat (first | (with_reducible first | exact HB.out | apply below_alloc | apply pw_below_drewN | apply below_drew1) | exact HB.out)) hb); have n1_ := mz (hbox); have n2_ := mz ((by rw [hg]; exact (below_size (by repeat (first | (with_reducible first | exact HB.out | apply below_alloc | apply pw_below_drewN | apply below_drew1) | exact HB.out))) : w.heap.size ≤ gb101)); have n3_ := mz ((by rw [hg]; exact (below_size (by repeat (first | (with_reducible first | exact HB.out | apply below_alloc | apply pw_below_drewN | apply below_drew1) | exact HB.out))) : w.heap.size ≤ gb101)); clear HB; have HB := n0_; have BK101 := n1_; have GW101 := n2_; have GE101 := n3_; clear n0_ n1_ n2_ n3_; clear hb hbox hg; have hcz11_0 : w10.cell? ⟨gb101, 0, none⟩ = some (.string a0_0) := (blk_cell BK101.out 0).trans rfl; have hcz11_1 : w10.cell? ⟨gb101, 1, none⟩ = some (.string a0_1) := (blk_cell BK101.out 1).trans rfl; have hcz11_2 : w10.cell? ⟨gb101, 2, none⟩ = some (.slice A0_2 l0_2.length c0_2) := (blk_cell BK101.out 2).trans rfl; have hcz11_3 : w10.cell? ⟨gb101, 3, none⟩ = some (.slice A0_3 l0_3.length c0_3) := (blk_cell BK101.out 3).trans rfl; have hfz11_0 := blk_frozen BK101.out 0; have hfz11_1 := blk_frozen BK101.out 1; have hfz11_2 := blk_frozen BK101.out 2; have hfz11_3 := blk_frozen BK101.out 3) | (go_at_call 14; (with_reducible refine (impl_GoodMeeting.calls a0_0 a0_1 _ _ l0_2 _ _ l0_3 true _ ?side1 ?side2 ?side3 ?side4 A3.out).mono ?_); (case side1 => repeat (first | exact (Kd.C_below HR0_2.out HB.out) | (with_reducible refine Kd.C_alloc ?_ _) | (with_reducible refine Kd.C_drewN ?_ _) | (with_reducible refine Kd.C_drew ?_))); (case side2 => exact HC0_2.out); (case side3 => repeat (first | exact (Kd.C_below HR0_3.out HB.out) | (with_reducible refine Kd.C_alloc ?_ _) | (with_reducible refine Kd.C_drewN ?_ _) | (with_reducible refine Kd.C_drew ?_))); (case side4 => exact HC0_3.out); rintro e w12 ⟨rfl, hb⟩; have n0_ := mz (blk_below (g := gb101) (o := .cells #[.string a0_0, .string a0_1, .slice A0_2 l0_2.length c0_2, .slice A0_3 l0_3.length c0_3] 27 (0, 0)) (by (with_reducible repeat (first | refine blk_drewN ?_ _ | refine blk_drew ?_ | refine blk_alloc ?_ _)); exact BK101.out) hb); have n1_ := mz (below_step (by repeat (first | (with_reducible first | exact HB.out | apply below_alloc | apply pw_below_drewN | apply below_drew1 | refine below_set ?_ GE101.out) | exact HB.out)) hb); clear BK101; clear HB; have BK101 := n0_; have HB := n1_; clear n0_ n1_; (try clear hb); (try clear hb2); (try clear hk); (try clear hi); have hcz13_0 : w12.cell? ⟨gb101, 0, none⟩ = some (.string a0_0) := (blk_cell BK101.out 0).trans rfl; have hcz13_1 : w12.cell? ⟨gb101, 1, none⟩ = some (.string a0_1) := (blk_cell BK101.out 1).trans rfl; have hcz13_2 : w12.cell? ⟨gb101, 2, none⟩ = some (.slice A0_2 l0_2.length c0_2) := (blk_cell BK101.out 2).trans rfl; have hcz13_3 : w12.cell? ⟨gb101, 3, none⟩ = some (.slice A0_3 l0_3.length c0_3) := (blk_cell BK101.out 3).trans rfl; have hfz13_0 := blk_frozen BK101.out 0; have hfz13_1 := blk_frozen BK101.out 1; have hfz13_2 := blk_frozen BK101.out 2; have hfz13_3 := blk_frozen BK101.out 3)))
        go_ret2
        exact ⟨by first | rfl | (simp [errW_none, errW_some] <;> rfl) | (simp [*, errW_none, errW_some] <;> rfl), by repeat (first | (with_reducible first | exact HB.out | apply below_alloc | apply pw_below_drewN | apply below_drew1 | refine below_set ?_ GE101.out) | exact HB.out)⟩
      · rw [if_neg c9] at H
        have c9b0 : decide ((l0_3.length : Int) ≤ a1) = false := decide_eq_false c9
        clear c9
        by_cases c14 : 0 ≤ a1
        · rw [if_pos c14] at H
          have c14b0 : decide (0 ≤ a1) = true := decide_eq_true c14
          clear c14
          by_cases c15 : a1 < (l0_3.length : Int)
          · rw [if_pos c15] at H
            have c15b0 : decide (a1 < (l0_3.length : Int)) = true := decide_eq_true c15
            clear c15
            simp only [Option.some.injEq, Prod.mk.injEq] at H
            obtain ⟨rfl, rfl⟩ := H
            go_enter Try.func16, Try.ntmps16
            go_wp2_with (first | ((with_reducible refine gate_dst (N := 2) rfl ?_); (try (refine gate_guard (by rfl) ?_; dsimp only)); refine box_event ?hg (N := 2) ?hd (cs := #[.string a0_0, .string a0_1, .slice A0_2 l0_2.length c0_2, .slice A0_3 l0_3.length c0_3]) (t := 27) ?hr ?_; (case hd => rfl); (case hg => rfl); (case hr => first | (go_simp; done) | (go_simp; rfl)); intro gb101 hg w16 hbox hb; have n0_ := mz (below_step (by repeat (first | (with_reducible first | exact HB.out | apply below_alloc | apply pw_below_drewN | apply below_drew1) | exact HB.out)) hb); have n1_ := mz (hbox); have n2_ := mz ((by rw [hg]; exact (below_size (by repeat (first | (with_reducible first | exact HB.out | apply below_alloc | apply pw_below_drewN | apply below_drew1) | exact HB.out))) : w.heap.size ≤ gb101)); have n3_ := mz ((by rw [hg]; exact (below_size (by repeat (first | (with_reducible first | exact HB.out | apply below_alloc | apply pw_below_drewN | apply below_drew1) | exact HB.out))) : w.heap.size ≤ gb101)); clear HB; have HB := n0_; have BK101 := n1_; have GW101 := n2_; have GE101 := n3_; clear n0_ n1_ n2_ n3_; clear hb hbox hg; have hcz17_0 : w16.cell? ⟨gb101, 0, none⟩ = some (.string a0_0) := (blk_cell BK101.out 0).trans rfl; have hcz17_1 : w16.cell? ⟨gb101, 1, none⟩ = some (.string a0_1) := (blk_cell BK101.out 1).trans rfl; have hcz17_2 : w16.cell? ⟨gb101, 2, none⟩ = some (.slice A0_2 l0_2.length c0_2) := (blk_cell BK101.out 2).trans rfl; have hcz17_3 : w16.cell? ⟨gb101, 3, none⟩ = some (.slice A0_3 l0_3.length c0_3) := (blk_cell BK101.out 3).trans rfl; have hfz17_0 := blk_frozen BK101.out 0; have hfz17_1 := blk_frozen BK101.out 1; have hfz17_2 := blk_frozen BK101.out 2; have hfz17_3 := blk_frozen BK101.out 3) | (go_at_call 14; (with_reducible refine (impl_GoodMeeting.calls a0_0 a0_1 _ _ l0_2 _ _ l0_3 true _ ?side1 ?side2 ?side3 ?side4 A3.out).mono ?_); (case side1 => repeat (first | exact (Kd.C_below HR0_2.out HB.out) | (with_reducible refine Kd.C_alloc ?_ _) | (with_reducible refine Kd.C_drewN ?_ _) | (with_reducible refine Kd.C_drew ?_))); (case side2 => exact HC0_2.out); (case side3 => repeat (first | exact (Kd.C_below HR0_3.out HB.out) | (with_reducible refine Kd.C_alloc ?_ _) | (with_reducible refine Kd.C_drewN ?_ _) | (with_reducible refine Kd.C_drew ?_))); (case side4 => exact HC0_3.out); rintro e w18 ⟨rfl, hb⟩; have n0_ := mz (blk_below (g := gb101) (o := .cells #[.string a0_0, .string a0_1, .slice A0_2 l0_2.length c0_2, .slice A0_3 l0_3.length c0_3] 27 (0, 0)) (by (with_reducible repeat (first | refine blk_drewN ?_ _ | refine blk_drew ?_ | refine blk_alloc ?_ _)); exact BK101.out) hb); have n1_ := mz (below_step (by repeat (first | (with_reducible first | exact HB.out | apply below_alloc | apply pw_below_drewN | apply below_drew1 | refine below_set ?_ GE101.out) | exact HB.out)) hb); clear BK101; clear HB; have BK101 := n0_; have HB := n1_; clear n0_ n1_; (try clear hb); (try clear hb2); (try clear hk); (try clear hi); have hcz19_0 : w18.cell? ⟨gb101, 0, none⟩ = some (.string a0_0) := (blk_cell BK101.out 0).trans rfl; have hcz19_1 : w18.cell? ⟨gb101, 1, none⟩ = some (.string a0_1) := (blk_cell BK101.out 1).trans rfl; have hcz19_2 : w18.cell? ⟨gb101, 2, none⟩ = some (.slice A0_2 l0_2.length c0_2) := (blk_cell BK101.out 2).trans rfl; have hcz19_3 : w18.cell? ⟨gb101, 3, none⟩ = some (.slice A0_3 l0_3.length c0_3) := (blk_cell BK101.out 3).trans rfl; have hfz19_0 := blk_frozen BK101.out 0; have hfz19_1 := blk_frozen BK101.out 1; have hfz19_2 := blk_frozen BK101.out 2; have hfz19_3 := blk_frozen BK101.out 3; have p103 : 0 ≤ (a1 : Int) := of_decide_eq_true (by first | (with_reducible assumption) | assumption); have q103 : a1 < (l0_3.length : Int) := of_decide_eq_true (by first | (with_reducible assumption) | assumption); obtain ⟨ad103, A103_5, c103_5, A103_6, c103_6, e103, hx103_0, hx103_1, hx103_2, hx103_3, hx103_4, hx103_5, hx103_6, hx103_7, hl103_5, hi103_5, hl103_6, hi103_6⟩ := at_T51 HR0_3.out a1 p103 q103; cases e103; replace hx103_0 := bc_ HB.out hx103_0; replace hx103_1 := bc_ HB.out hx103_1; replace hx103_2 := bc_ HB.out hx103_2; replace hx103_3 := bc_ HB.out hx103_3; replace hx103_4 := bc_ HB.out hx103_4; replace hx103_5 := bc_ HB.out hx103_5; replace hx103_6 := bc_ HB.out hx103_6; replace hx103_7 := bc_ HB.out hx103_7; have HR103_5 := mz hi103_5; have HC103_5 := mz hl103_5; clear hi103_5 hl103_5; have HR103_6 := mz hi103_6; have HC103_6 := mz hl103_6; clear hi103_6 hl103_6; replace p103 := eq_true p103; replace q103 := eq_true q103))
            repeat (go_quiet (first | ((with_reducible refine gate_dst (N := 2) rfl ?_); (try (refine gate_guard (by rfl) ?_; dsimp only)); refine box_event ?hg (N := 2) ?hd (cs := #[.string a0_0, .string a0_1, .slice A0_2 l0_2.length c0_2, .slice A0_3 l0_3.length c0_3]) (t := 27) ?hr ?_; (case hd => rfl); (case hg => rfl); (case hr => first | (go_simp; done) | (go_simp; rfl)); intro gb101 hg w16 hbox hb; have n0_ := mz (below_step (by repeat (first | (with_reducible first | exact HB.out | apply below_alloc | apply pw_below_drewN | apply below_drew1) | exact HB.out)) hb); have n1_ := mz (hbox); have n2_ := mz ((by rw [hg]; exact (below_size (by repeat (first | (with_reducible first | exact HB.out | apply below_alloc | apply pw_below_drewN | apply below_drew1) | exact HB.out))) : w.heap.size ≤ gb101)); have n3_ := mz ((by rw [hg]; exact (below_size (by repeat (first | (with_reducible first | exact HB.out | apply below_alloc | apply pw_below_drewN | apply below_drew1) | exact HB.out))) : w.heap.size ≤ gb101)); clear HB; have HB := n0_; have BK101 := n1_; have GW101 := n2_; have GE101 := n3_; clear n0_ n1_ n2_ n3_; clear hb hbox hg; have hcz17_0 : w16.cell? ⟨gb101, 0, none⟩ = some (.string a0_0) := (blk_cell BK101.out 0).trans rfl; have hcz17_1 : w16.cell? ⟨gb101, 1, none⟩ = some (.string a0_1) := (blk_cell BK101.out 1).trans rfl; have hcz17_2 : w16.cell? ⟨gb101, 2, none⟩ = some (.slice A0_2 l0_2.length c0_2) := (blk_cell BK101.out 2).trans rfl; have hcz17_3 : w16.cell? ⟨gb101, 3, none⟩ = some (.slice A0_3 l0_3.length c0_3) := (blk_cell BK101.out 3).trans rfl; have hfz17_0 := blk_frozen BK101.out 0; have hfz17_1 := blk_frozen BK101.out 1; have hfz17_2 := blk_frozen BK101.out 2; have hfz17_3 := blk_frozen BK101.out 3) | (go_at_call 14; (with_reducible refine (impl_GoodMeeting.calls a0_0 a0_1 _ _ l0_2 _ _ l0_3 true _ ?side1 ?side2 ?side3 ?side4 A3.out).mono ?_); (case side1 => repeat (first | exact (Kd.C_below HR0_2.out HB.out) | (with_reducible refine Kd.C_alloc ?_ _) | (with_reducible refine Kd.C_drewN ?_ _) | (with_reducible refine Kd.C_drew ?_))); (case side2 => exact HC0_2.out); (case side3 => repeat (first | exact (Kd.C_below HR0_3.out HB.out) | (with_reducible refine Kd.C_alloc ?_ _) | (with_reducible refine Kd.C_drewN ?_ _) | (with_reducible refine Kd.C_drew ?_))); (case side4 => exact HC0_3.out); rintro e w18 ⟨rfl, hb⟩; have n0_ := mz (blk_below (g := gb101) (o := .cells #[.string a0_0, .string a0_1, .slice A0_2 l0_2.length c0_2, .slice A0_3 l0_3.length c0_3] 27 (0, 0)) (by (with_reducible repeat (first | refine blk_drewN ?_ _ | refine blk_drew ?_ | refine blk_alloc ?_ _)); exact BK101.out) hb); have n1_ := mz (below_step (by repeat (first | (with_reducible first | exact HB.out | apply below_alloc | apply pw_below_drewN | apply below_drew1 | refine below_set ?_ GE101.out) | exact HB.out)) hb); clear BK101; clear HB; have BK101 := n0_; have HB := n1_; clear n0_ n1_; (try clear hb); (try clear hb2); (try clear hk); (try clear hi); have hcz19_0 : w18.cell? ⟨gb101, 0, none⟩ = some (.string a0_0) := (blk_cell BK101.out 0).trans rfl; have hcz19_1 : w18.cell? ⟨gb101, 1, none⟩ = some (.string a0_1) := (blk_cell BK101.out 1).trans rfl; have hcz19_2 : w18.cell? ⟨gb101, 2, none⟩ = some (.slice A0_2 l0_2.length c0_2) := (blk_cell BK101.out 2).trans rfl; have hcz19_3 : w18.cell? ⟨gb101, 3, none⟩ = some (.slice A0_3 l0_3.length c0_3) := (blk_cell BK101.out 3).trans rfl; have hfz19_0 := blk_frozen BK101.out 0; have hfz19_1 := blk_frozen BK101.out 1; have hfz19_2 := blk_frozen BK101.out 2; have hfz19_3 := blk_frozen BK101.out 3; have p103 : 0 ≤ (a1 : Int) := of_decide_eq_true (by first | (with_reducible assumption) | assumption); have q103 : a1 < (l0_3.length : Int) := of_decide_eq_true (by first | (with_reducible assumption) | assumption); obtain ⟨ad103, A103_5, c103_5, A103_6, c103_6, e103, hx103_0, hx103_1, hx103_2, hx103_3, hx103_4, hx103_5, hx103_6, hx103_7, hl103_5, hi103_5, hl103_6, hi103_6⟩ := at_T51 HR0_3.out a1 p103 q103; cases e103; replace hx103_0 := bc_ HB.out hx103_0; replace hx103_1 := bc_ HB.out hx103_1; replace hx103_2 := bc_ HB.out hx103_2; replace hx103_3 := bc_ HB.out hx103_3; replace hx103_4 := bc_ HB.out hx103_4; replace hx103_5 := bc_ HB.out hx103_5; replace hx103_6 := bc_ HB.out hx103_6; replace hx103_7 := bc_ HB.out hx103_7; have HR103_5 := mz hi103_5; have HC103_5 := mz hl103_5; clear hi103_5 hl103_5; have HR103_6 := mz hi103_6; have HC103_6 := mz hl103_6; clear hi103_6 hl103_6; replace p103 := eq_true p103; replace q103 := eq_true q103)); try go_wp2_with (first | ((with_reducible refine gate_dst (N := 2) rfl ?_); (try (refine gate_guard (by rfl) ?_; dsimp only)); refine box_event ?hg (N := 2) ?hd (cs := #[.string a0_0, .string a0_1, .slice A0_2 l0_2.length c0_2, .slice A0_3 l0_3.length c0_3]) (t := 27) ?hr ?_; (case hd => rfl); (case hg => rfl); (case hr => first | (go_simp; done) | (go_simp; rfl)); intro gb101 hg w16 hbox hb; have n0_ := mz (below_step (by repeat (first | (with_reducible first | exact HB.out | apply below_alloc | apply pw_below_drewN | apply below_drew1) | exact HB.out)) hb); have n1_ := mz (hbox); have n2_ := mz ((by rw [hg]; exact (below_size (by repeat (first | (with_reducible first | exact HB.out | apply below_alloc | apply pw_below_drewN | apply below_drew1) | exact HB.out))) : w.heap.size ≤ gb101)); have n3_ := mz ((by rw [hg]; exact (below_size (by repeat (first | (with_reducible first | exact HB.out | apply below_alloc | apply pw_below_drewN | apply below_drew1) | exact HB.out))) : w.heap.size ≤ gb101)); clear HB; have HB := n0_; have BK101 := n1_; have GW101 := n2_; have GE101 := n3_; clear n0_ n1_ n2_ n3_; clear hb hbox hg; have hcz17_0 : w16.cell? ⟨gb101, 0, none⟩ = some (.string a0_0) := (blk_cell BK101.out 0).trans rfl; have hcz17_1 : w16.cell? ⟨gb101, 1, none⟩ = some (.string a0_1) := (blk_cell BK101.out 1).trans rfl; have hcz17_2 : w16.cell? ⟨gb101, 2, none⟩ = some (.slice A0_2 l0_2.length c0_2) := (blk_cell BK101.out 2).trans rfl; have hcz17_3 : w16.cell? ⟨gb101, 3, none⟩ = some (.slice A0_3 l0_3.length c0_3) := (blk_cell BK101.out 3).trans rfl; have hfz17_0 := blk_frozen BK101.out 0; have hfz17_1 := blk_frozen BK101.out 1; have hfz17_2 := blk_frozen BK101.out 2; have hfz17_3 := blk_frozen BK101.out 3) | (go_at_call 14; (with_reducible refine (impl_GoodMeeting.calls a0_0 a0_1 _ _ l0_2 _ _ l0_3 true _ ?side1 ?side2 ?side3 ?side4 A3.out).mono ?_); (case side1 => repeat (first | exact (Kd.C_below HR0_2.out HB.out) | (with_reducible refine Kd.C_alloc ?_ _) | (with_reducible refine Kd.C_drewN ?_ _) | (with_reducible refine Kd.C_drew ?_))); (case side2 => exact HC0_2.out); (case side3 => repeat (first | exact (Kd.C_below HR0_3.out HB.out) | (with_reducible refine Kd.C_alloc ?_ _) | (with_reducible refine Kd.C_drewN ?_ _) | (with_reducible refine Kd.C_drew ?_))); (case side4 => exact HC0_3.out); rintro e w18 ⟨rfl, hb⟩; have n0_ := mz (blk_below (g := gb101) (o := .cells #[.string a0_0, .string a0_1, .slice A0_2 l0_2.length c0_2, .slice A0_3 l0_3.length c0_3] 27 (0, 0)) (by (with_reducible repeat (first | refine blk_drewN ?_ _ | refine blk_drew ?_ | refine blk_alloc ?_ _)); exact BK101.out) hb); have n1_ := mz (below_step (by repeat (first | (with_reducible first | exact HB.out | apply below_alloc | apply pw_below_drewN | apply below_drew1 | refine below_set ?_ GE101.out) | exact HB.out)) hb); clear BK101; clear HB; have BK101 := n0_; have HB := n1_; clear n0_ n1_; (try clear hb); (try clear hb2); (try clear hk); (try clear hi); have hcz19_0 : w18.cell? ⟨gb101, 0, none⟩ = some (.string a0_0) := (blk_cell BK101.out 0).trans rfl; have hcz19_1 : w18.cell? ⟨gb101, 1, none⟩ = some (.string a0_1) := (blk_cell BK101.out 1).trans rfl; have hcz19_2 : w18.cell? ⟨gb101, 2, none⟩ = some (.slice A0_2 l0_2.length c0_2) := (blk_cell BK101.out 2).trans rfl; have hcz19_3 : w18.cell? ⟨gb101, 3, none⟩ = some (.slice A0_3 l0_3.length c0_3) := (blk_cell BK101.out 3).trans rfl; have hfz19_0 := blk_frozen BK101.out 0; have hfz19_1 := blk_frozen BK101.out 1; have hfz19_2 := blk_frozen BK101.out 2; have hfz19_3 := blk_frozen BK101.out 3; have p103 : 0 ≤ (a1 : Int) := of_decide_eq_true (by first | (with_reducible assumption) | assumption); have q103 : a1 < (l0_3.length : Int) := of_decide_eq_true (by first | (with_reducible assumption) | assumption); obtain ⟨ad103, A103_5, c103_5, A103_6, c103_6, e103, hx103_0, hx103_1, hx103_2, hx103_3, hx103_4, hx103_5, hx103_6, hx103_7, hl103_5, hi103_5, hl103_6, hi103_6⟩ := at_T51 HR0_3.out a1 p103 q103; cases e103; replace hx103_0 := bc_ HB.out hx103_0; replace hx103_1 := bc_ HB.out hx103_1; replace hx103_2 := bc_ HB.out hx103_2; replace hx103_3 := bc_ HB.out hx103_3; replace hx103_4 := bc_ HB.out hx103_4; replace hx103_5 := bc_ HB.out hx103_5; replace hx103_6 := bc_ HB.out hx103_6; replace hx103_7 := bc_ HB.out hx103_7; have HR103_5 := mz hi103_5; have HC103_5 := mz hl103_5; clear hi103_5 hl103_5; have HR103_6 := mz hi103_6; have HC103_6 := mz hl103_6; clear hi103_6 hl103_6; replace p103 := eq_true p103; replace q103 := eq_true q103)))
            go_ret2
            exact ⟨by first | rfl | (simp [errW_none, errW_some] <;> rfl) | (simp [*, errW_none, errW_some] <;> rfl), by repeat (first | (with_reducible first | exact HB.out | apply below_alloc | apply pw_below_drewN | apply below_drew1 | refine below_set ?_ GE101.out) | exact HB.out)⟩
          · rw [if_neg c15] at H
            exact absurd H (by simp)
        · rw [if_neg c14] at H
          exact absurd H (by simp)
  · replace c4 := Bool.eq_false_iff.mpr c4
    subst c4
    have H1 : (some (false, false)) = some (r1, r2) := by rw [if_neg (show ¬ (false = true) by decide)] at H; exact H
    clear H
    have H := H1
    clear H1
    simp only [Option.some.injEq, Prod.mk.injEq] at H
    obtain ⟨rfl, rfl⟩ := H
    go_enter Try.func16, Try.ntmps16
    go_wp2_with (first | ((with_reducible refine gate_dst (N := 2) rfl ?_); (try (refine gate_guard (by rfl) ?_; dsimp only)); refine box_event ?hg (N := 2) ?hd (cs := #[.string a0_0, .string a0_1, .slice A0_2 l0_2.length c0_2, .slice A0_3 l0_3.length c0_3]) (t := 27) ?hr ?_; (case hd => rfl); (case hg => rfl); (case hr => first | (go_simp; done) | (go_simp; rfl)); intro gb101 hg w20 hbox hb; have n0_ := mz (below_step (by repeat (first | (with_reducible first | exact HB.out | apply below_alloc | apply pw_below_drewN | apply below_drew1) | exact HB.out)) hb); have n1_ := mz (hbox); have n2_ := mz ((by rw [hg]; exact (below_size (by repeat (first | (with_reducible first | exact HB.out | apply below_alloc | apply pw_below_drewN | apply below_drew1) | exact HB.out))) : w.heap.size ≤ gb101)); have n3_ := mz ((by rw [hg]; exact (below_size (by repeat (first | (with_reducible first | exact HB.out | apply below_alloc | apply pw_below_drewN | apply below_drew1) | exact HB.out))) : w.heap.size ≤ gb101)); clear HB; have HB := n0_; have BK101 := n1_; have GW101 := n2_; have GE101 := n3_; clear n0_ n1_ n2_ n3_; clear hb hbox hg; have hcz21_0 : w20.cell? ⟨gb101, 0, none⟩ = some (.string a0_0) := (blk_cell BK101.out 0).trans rfl; have hcz21_1 : w20.cell? ⟨gb101, 1, none⟩ = some (.string a0_1) := (blk_cell BK101.out 1).trans rfl; have hcz21_2 : w20.cell? ⟨gb101, 2, none⟩ = some (.slice A0_2 l0_2.length c0_2) := (blk_cell BK101.out 2).trans rfl; have hcz21_3 : w20.cell? ⟨gb101, 3, none⟩ = some (.slice A0_3 l0_3.length c0_3) := (blk_cell BK101.out 3).trans rfl; have hfz21_0 := blk_frozen BK101.out 0; have hfz21_1 := blk_frozen BK101.out 1; have hfz21_2 := blk_frozen BK101.out 2; have hfz21_3 := blk_frozen BK101.out 3) | (go_at_call 14; (with_reducible refine (impl_GoodMeeting.calls a0_0 a0_1 _ _ l0_2 _ _ l0_3 false _ ?side1 ?side2 ?side3 ?side4 A3.out).mono ?_); (case side1 => repeat (first | exact (Kd.C_below HR0_2.out HB.out) | (with_reducible refine Kd.C_alloc ?_ _) | (with_reducible refine Kd.C_drewN ?_ _) | (with_reducible refine Kd.C_drew ?_))); (case side2 => exact HC0_2.out); (case side3 => repeat (first | exact (Kd.C_below HR0_3.out HB.out) | (with_reducible refine Kd.C_alloc ?_ _) | (with_reducible refine Kd.C_drewN ?_ _) | (with_reducible refine Kd.C_drew ?_))); (case side4 => exact HC0_3.out); rintro e w22 ⟨rfl, hb⟩; have n0_ := mz (blk_below (g := gb101) (o := .cells #[.string a0_0, .string a0_1, .slice A0_2 l0_2.length c0_2, .slice A0_3 l0_3.length c0_3] 27 (0, 0)) (by (with_reducible repeat (first | refine blk_drewN ?_ _ | refine blk_drew ?_ | refine blk_alloc ?_ _)); exact BK101.out) hb); have n1_ := mz (below_step (by repeat (first | (with_reducible first | exact HB.out | apply below_alloc | apply pw_below_drewN | apply below_drew1 | refine below_set ?_ GE101.out) | exact HB.out)) hb); clear BK101; clear HB; have BK101 := n0_; have HB := n1_; clear n0_ n1_; (try clear hb); (try clear hb2); (try clear hk); (try clear hi)))
    repeat (go_quiet (first | ((with_reducible refine gate_dst (N := 2) rfl ?_); (try (refine gate_guard (by rfl) ?_; dsimp only)); refine box_event ?hg (N := 2) ?hd (cs := #[.string a0_0, .string a0_1, .slice A0_2 l0_2.length c0_2, .slice A0_3 l0_3.length c0_3]) (t := 27) ?hr ?_; (case hd => rfl); (case hg => rfl); (case hr => first | (go_simp; done) | (go_simp; rfl)); intro gb101 hg w20 hbox hb; have n0_ := mz (below_step (by repeat (first | (with_reducible first | exact HB.out | apply below_alloc | apply pw_below_drewN | apply below_drew1) | exact HB.out)) hb); have n1_ := mz (hbox); have n2_ := mz ((by rw [hg]; exact (below_size (by repeat (first | (with_reducible first | exact HB.out | apply below_alloc | apply pw_below_drewN | apply below_drew1) | exact HB.out))) : w.heap.size ≤ gb101)); have n3_ := mz ((by rw [hg]; exact (below_size (by repeat (first | (with_reducible first | exact HB.out | apply below_alloc | apply pw_below_drewN | apply below_drew1) | exact HB.out))) : w.heap.size ≤ gb101)); clear HB; have HB := n0_; have BK101 := n1_; have GW101 := n2_; have GE101 := n3_; clear n0_ n1_ n2_ n3_; clear hb hbox hg; have hcz21_0 : w20.cell? ⟨gb101, 0, none⟩ = some (.string a0_0) := (blk_cell BK101.out 0).trans rfl; have hcz21_1 : w20.cell? ⟨gb101, 1, none⟩ = some (.string a0_1) := (blk_cell BK101.out 1).trans rfl; have hcz21_2 : w20.cell? ⟨gb101, 2, none⟩ = some (.slice A0_2 l0_2.length c0_2) := (blk_cell BK101.out 2).trans rfl; have hcz21_3 : w20.cell? ⟨gb101, 3, none⟩ = some (.slice A0_3 l0_3.length c0_3) := (blk_cell BK101.out 3).trans rfl; have hfz21_0 := blk_frozen BK101.out 0; have hfz21_1 := blk_frozen BK101.out 1; have hfz21_2 := blk_frozen BK101.out 2; have hfz21_3 := blk_frozen BK101.out 3) | (go_at_call 14; (with_reducible refine (impl_GoodMeeting.calls a0_0 a0_1 _ _ l0_2 _ _ l0_3 false _ ?side1 ?side2 ?side3 ?side4 A3.out).mono ?_); (case side1 => repeat (first | exact (Kd.C_below HR0_2.out HB.out) | (with_reducible refine Kd.C_alloc ?_ _) | (with_reducible refine Kd.C_drewN ?_ _) | (with_reducible refine Kd.C_drew ?_))); (case side2 => exact HC0_2.out); (case side3 => repeat (first | exact (Kd.C_below HR0_3.out HB.out) | (with_reducible refine Kd.C_alloc ?_ _) | (with_reducible refine Kd.C_drewN ?_ _) | (with_reducible refine Kd.C_drew ?_))); (case side4 => exact HC0_3.out); rintro e w22 ⟨rfl, hb⟩; have n0_ := mz (blk_below (g := gb101) (o := .cells #[.string a0_0, .string a0_1, .slice A0_2 l0_2.length c0_2, .slice A0_3 l0_3.length c0_3] 27 (0, 0)) (by (with_reducible repeat (first | refine blk_drewN ?_ _ | refine blk_drew ?_ | refine blk_alloc ?_ _)); exact BK101.out) hb); have n1_ := mz (below_step (by repeat (first | (with_reducible first | exact HB.out | apply below_alloc | apply pw_below_drewN | apply below_drew1 | refine below_set ?_ GE101.out) | exact HB.out)) hb); clear BK101; clear HB; have BK101 := n0_; have HB := n1_; clear n0_ n1_; (try clear hb); (try clear hb2); (try clear hk); (try clear hi))); try go_wp2_with (first | ((with_reducible refine gate_dst (N := 2) rfl ?_); (try (refine gate_guard (by rfl) ?_; dsimp only)); refine box_event ?hg (N := 2) ?hd (cs := #[.string a0_0, .string a0_1, .slice A0_2 l0_2.length c0_2, .slice A0_3 l0_3.length c0_3]) (t := 27) ?hr ?_; (case hd => rfl); (case hg => rfl); (case hr => first | (go_simp; done) | (go_simp; rfl)); intro gb101 hg w20 hbox hb; have n0_ := mz (below_step (by repeat (first | (with_reducible first | exact HB.out | apply below_alloc | apply pw_below_drewN | apply below_drew1) | exact HB.out)) hb); have n1_ := mz (hbox); have n2_ := mz ((by rw [hg]; exact (below_size (by repeat (first | (with_reducible first | exact HB.out | apply below_alloc | apply pw_below_drewN | apply below_drew1) | exact HB.out))) : w.heap.size ≤ gb101)); have n3_ := mz ((by rw [hg]; exact (below_size (by repeat (first | (with_reducible first | exact HB.out | apply below_alloc | apply pw_below_drewN | apply below_drew1) | exact HB.out))) : w.heap.size ≤ gb101)); clear HB; have HB := n0_; have BK101 := n1_; have GW101 := n2_; have GE101 := n3_; clear n0_ n1_ n2_ n3_; clear hb hbox hg; have hcz21_0 : w20.cell? ⟨gb101, 0, none⟩ = some (.string a0_0) := (blk_cell BK101.out 0).trans rfl; have hcz21_1 : w20.cell? ⟨gb101, 1, none⟩ = some (.string a0_1) := (blk_cell BK101.out 1).trans rfl; have hcz21_2 : w20.cell? ⟨gb101, 2, none⟩ = some (.slice A0_2 l0_2.length c0_2) := (blk_cell BK101.out 2).trans rfl; have hcz21_3 : w20.cell? ⟨gb101, 3, none⟩ = some (.slice A0_3 l0_3.length c0_3) := (blk_cell BK101.out 3).trans rfl; have hfz21_0 := blk_frozen BK101.out 0; have hfz21_1 := blk_frozen BK101.out 1; have hfz21_2 := blk_frozen BK101.out 2; have hfz21_3 := blk_frozen BK101.out 3) | (go_at_call 14; (with_reducible refine (impl_GoodMeeting.calls a0_0 a0_1 _ _ l0_2 _ _ l0_3 false _ ?side1 ?side2 ?side3 ?side4 A3.out).mono ?_); (case side1 => repeat (first | exact (Kd.C_below HR0_2.out HB.out) | (with_reducible refine Kd.C_alloc ?_ _) | (with_reducible refine Kd.C_drewN ?_ _) | (with_reducible refine Kd.C_drew ?_))); (case side2 => exact HC0_2.out); (case side3 => repeat (first | exact (Kd.C_below HR0_3.out HB.out) | (with_reducible refine Kd.C_alloc ?_ _) | (with_reducible refine Kd.C_drewN ?_ _) | (with_reducible refine Kd.C_drew ?_))); (case side4 => exact HC0_3.out); rintro e w22 ⟨rfl, hb⟩; have n0_ := mz (blk_below (g := gb101) (o := .cells #[.string a0_0, .string a0_1, .slice A0_2 l0_2.length c0_2, .slice A0_3 l0_3.length c0_3] 27 (0, 0)) (by (with_reducible repeat (first | refine blk_drewN ?_ _ | refine blk_drew ?_ | refine blk_alloc ?_ _)); exact BK101.out) hb); have n1_ := mz (below_step (by repeat (first | (with_reducible first | exact HB.out | apply below_alloc | apply pw_below_drewN | apply below_drew1 | refine below_set ?_ GE101.out) | exact HB.out)) hb); clear BK101; clear HB; have BK101 := n0_; have HB := n1_; clear n0_ n1_; (try clear hb); (try clear hb2); (try clear hk); (try clear hi))))
    go_ret2
    exact ⟨by first | rfl | (simp [errW_none, errW_some] <;> rfl) | (simp [*, errW_none, errW_some] <;> rfl), by repeat (first | (with_reducible first | exact HB.out | apply below_alloc | apply pw_below_drewN | apply below_drew1 | refine below_set ?_ GE101.out) | exact HB.out)⟩
end
section
attribute [local go_sem] max2_int min2_int max_two min_two max_three min_three max_four min_four
def laws_eqPart.f (a0_0 : Int) (a0_1 : ByteArray) (a0_2 : ByteArray) (a1_0 : Int) (a1_1 : ByteArray) (a1_2 : ByteArray) : Option (Bool) := if a0_0 = a1_0 then (if a0_1.toList = a1_1.toList then (if a0_2.toList = a1_2.toList then (some true) else (some false)) else (some false)) else (some false)
set_option maxHeartbeats 8000000 in
set_option maxRecDepth 100000 in
theorem laws_eqPart.calls (a0_0 : Int) (a0_1 : ByteArray) (a0_2 : ByteArray) (a1_0 : Int) (a1_1 : ByteArray) (a1_2 : ByteArray) (r : Bool) (w : World) (h : laws_eqPart.f a0_0 a0_1 a0_2 a1_0 a1_1 a1_2 = some r) :
    Calls Try.prog 76 #[.agg #[.int .i64 a0_0, .string a0_1, .string a0_2], .agg #[.int .i64 a1_0, .string a1_1, .string a1_2]] w fun e w' => e = .returned (.bool r) ∧ Below w.heap.size w w' := by
  have hu86 := Try.underlying86
  have HB := mz (Below.refl w.heap.size w)
  have H : (if a0_0 = a1_0 then (if a0_1.toList = a1_1.toList then (if a0_2.toList = a1_2.toList then (some true) else (some false)) else (some false)) else (some false)) = some r := h
  clear h
  by_cases c3 : a0_0 = a1_0
  · rw [if_pos c3] at H
    have c3b0 : (a0_0 == a1_0) = true := beq_iff_eq.mpr c3
    have c3b1 : (a0_0 != a1_0) = false := bne_eq_false_iff_eq.mpr c3
    clear c3
    by_cases c4 : a0_1.toList = a1_1.toList
    · rw [if_pos c4] at H
      have c4b0 : (a0_1.toList == a1_1.toList) = true := beq_iff_eq.mpr c4
      have c4b1 : (a0_1.toList != a1_1.toList) = false := bne_eq_false_iff_eq.mpr c4
      clear c4
      by_cases c5 : a0_2.toList = a1_2.toList
      · rw [if_pos c5] at H
        have c5b0 : (a0_2.toList == a1_2.toList) = true := beq_iff_eq.mpr c5
        have c5b1 : (a0_2.toList != a1_2.toList) = false := bne_eq_false_iff_eq.mpr c5
        clear c5
        obtain rfl := Option.some.inj H
        go_enter Try.func76, Try.ntmps76
        go_wp2_with (first | ((with_reducible refine gate_dst (N := 2) rfl ?_); refine box_event ?hg (N := 2) ?hd (cs := #[.int .i64 a0_0, .string a0_1, .string a0_2]) (t := 86) ?hr ?_; (case hd => rfl); (case hg => rfl); (case hr => first | (go_simp; done) | (go_simp; rfl)); intro gb101 hg w6 hbox hb; have n0_ := mz (below_step (by repeat (first | (with_reducible first | exact HB.out | apply below_alloc | apply pw_below_drewN | apply below_drew1) | exact HB.out)) hb); have n1_ := mz (hbox); have n2_ := mz ((by rw [hg]; exact (below_size (by repeat (first | (with_reducible first | exact HB.out | apply below_alloc | apply pw_below_drewN | apply below_drew1) | exact HB.out))) : w.heap.size ≤ gb101)); have n3_ := mz ((by rw [hg]; exact (below_size (by repeat (first | (with_reducible first | exact HB.out | apply below_alloc | apply pw_below_drewN | apply below_drew1) | exact HB.out))) : w.heap.size ≤ gb101)); clear HB; have HB := n0_; have BK101 := n1_; have GW101 := n2_; have GE101 := n3_; clear n0_ n1_ n2_ n3_; clear hb hbox hg) | ((with_reducible refine gate_dst (N := 3) rfl ?_); refine box_event ?hg (N := 3) ?hd (cs := #[.int .i64 a1_0, .string a1_1, .string a1_2]) (t := 86) ?hr ?_; (case hd => rfl); (case hg => rfl); (case hr => first | (go_simp; done) | (go_simp; rfl)); intro gb102 hg w7 hbox hb; have n0_ := mz (blk_below (g := gb101) (o := .cells #[.int .i64 a0_0, .string a0_1, .string a0_2] 86 (0, 0)) (by (with_reducible repeat (first | refine blk_drewN ?_ _ | refine blk_drew ?_ | refine blk_alloc ?_ _)); exact BK101.out) hb); have n1_ := mz (below_step (by repeat (first | (with_reducible first | exact HB.out | apply below_alloc | apply pw_below_drewN | apply below_drew1 | refine below_set ?_ GE101.out) | exact HB.out)) hb); have n2_ := mz (hbox); have n3_ := mz ((by rw [hg]; exact (below_size (by repeat (first | (with_reducible first | exact HB.out | apply below_alloc | apply pw_below_drewN | apply below_drew1 | refine below_set ?_ GE101.out) | exact HB.out))) : w.heap.size ≤ gb102)); have n4_ := mz ((by rw [hg]; exact (below_size (by repeat (first | (with_reducible first | exact HB.out | apply below_alloc | apply pw_below_drewN | apply below_drew1 | refine below_set ?_ GE101.out) | exact HB.out))) : w.heap.size ≤ gb102)); have n5_ := mz ((by rw [hg]; exact Nat.ne_of_lt (blk_lt (g := gb101) (o := .cells #[.int .i64 a0_0, .string a0_1, .string a0_2] 86 (0, 0)) (by (with_reducible repeat (first | refine blk_drewN ?_ _ | refine blk_drew ?_ | refine blk_alloc ?_ _)); exact BK101.out)) : gb101 ≠ gb102)); have n6_ := mz ((by rw [hg]; exact Nat.ne_of_gt (blk_lt (g := gb101) (o := .cells #[.int .i64 a0_0, .string a0_1, .string a0_2] 86 (0, 0)) (by (with_reducible repeat (first | refine blk_drewN ?_ _ | refine blk_drew ?_ | refine blk_alloc ?_ _)); exact BK101.out)) : gb102 ≠ gb101)); clear BK101; clear HB; have BK101 := n0_; have HB := n1_; have BK102 := n2_; have GW102 := n3_; have GE102 := n4_; have NB101_102 := n5_; have NB102_101 := n6_; clear n0_ n1_ n2_ n3_ n4_ n5_ n6_; clear hb hbox hg; have hnb8 := NB101_102.out; have hnc8 := NB102_101.out; have hcz9_0 : w7.cell? ⟨gb101, 0, none⟩ = some (.int .i64 a0_0) := (blk_cell BK101.out 0).trans rfl; have hcz9_1 : w7.cell? ⟨gb101, 1, none⟩ = some (.string a0_1) := (blk_cell BK101.out 1).trans rfl; have hcz9_2 : w7.cell? ⟨gb101, 2, none⟩ = some (.string a0_2) := (blk_cell BK101.out 2).trans rfl; have hfz9_0 := blk_frozen BK101.out 0; have hfz9_1 := blk_frozen BK101.out 1; have hfz9_2 := blk_frozen BK101.out 2; have hcz10_0 : w7.cell? ⟨gb102, 0, none⟩ = some (.int .i64 a1_0) := (blk_cell BK102.out 0).trans rfl; have hcz10_1 : w7.cell? ⟨gb102, 1, none⟩ = some (.string a1_1) := (blk_cell BK102.out 1).trans rfl; have hcz10_2 : w7.cell? ⟨gb102, 2, none⟩ = some (.string a1_2) := (blk_cell BK102.out 2).trans rfl; have hfz10_0 := blk_frozen BK102.out 0; have hfz10_1 := blk_frozen BK102.out 1; have hfz10_2 := blk_frozen BK102.out 2))
        go_ret
        exact ⟨by first | rfl | (simp [errW_none, errW_some] <;> rfl) | (simp [*, errW_none, errW_some] <;> rfl), by repeat (first | (with_reducible first | exact HB.out | apply below_alloc | apply pw_below_drewN | apply below_drew1 | refine below_set ?_ GE101.out | refine below_set ?_ GE102.out) | exact HB.out)⟩
      · rw [if_neg c5] at H
        have c5b0 : (a0_2.toList == a1_2.toList) = false := beq_eq_false_iff_ne.mpr c5
        have c5b1 : (a0_2.toList != a1_2.toList) = true := bne_iff_ne.mpr c5
        obtain rfl := Option.some.inj H
        go_enter Try.func76, Try.ntmps76
        go_wp2_with (first | ((with_reducible refine gate_dst (N := 2) rfl ?_); refine box_event ?hg (N := 2) ?hd (cs := #[.int .i64 a0_0, .string a0_1, .string a0_2]) (t := 86) ?hr ?_; (case hd => rfl); (case hg => rfl); (case hr => first | (go_simp; done) | (go_simp; rfl)); intro gb101 hg w11 hbox hb; have n0_ := mz (below_step (by repeat (first | (with_reducible first | exact HB.out | apply below_alloc | apply pw_below_drewN | apply below_drew1) | exact HB.out)) hb); have n1_ := mz (hbox); have n2_ := mz ((by rw [hg]; exact (below_size (by repeat (first | (with_reducible first | exact HB.out | apply below_alloc | apply pw_below_drewN | apply below_drew1) | exact HB.out))) : w.heap.size ≤ gb101)); have n3_ := mz ((by rw [hg]; exact (below_size (by repeat (first | (with_reducible first | exact HB.out | apply below_alloc | apply pw_below_drewN | apply below_drew1) | exact HB.out))) : w.heap.size ≤ gb101)); clear HB; have HB := n0_; have BK101 := n1_; have GW101 := n2_; have GE101 := n3_; clear n0_ n1_ n2_ n3_; clear hb hbox hg) | ((with_reducible refine gate_dst (N := 3) rfl ?_); refine box_event ?hg (N := 3) ?hd (cs := #[.int .i64 a1_0, .string a1_1, .string a1_2]) (t := 86) ?hr ?_; (case hd => rfl); (case hg => rfl); (case hr => first | (go_simp; done) | (go_simp; rfl)); intro gb102 hg w12 hbox hb; have n0_ := mz (blk_below (g := gb101) (o := .cells #[.int .i64 a0_0, .string a0_1, .string a0_2] 86 (0, 0)) (by (with_reducible repeat (first | refine blk_drewN ?_ _ | refine blk_drew ?_ | refine blk_alloc ?_ _)); exact BK101.out) hb); have n1_ := mz (below_step (by repeat (first | (with_reducible first | exact HB.out | apply below_alloc | apply pw_below_drewN | apply below_drew1 | refine below_set ?_ GE101.out) | exact HB.out)) hb); have n2_ := mz (hbox); have n3_ := mz ((by rw [hg]; exact (below_size (by repeat (first | (with_reducible first | exact HB.out | apply below_alloc | apply pw_below_drewN | apply below_drew1 | refine below_set ?_ GE101.out) | exact HB.out))) : w.heap.size ≤ gb102)); have n4_ := mz ((by rw [hg]; exact (below_size (by repeat (first | (with_reducible first | exact HB.out | apply below_alloc | apply pw_below_drewN | apply below_drew1 | refine below_set ?_ GE101.out) | exact HB.out))) : w.heap.size ≤ gb102)); have n5_ := mz ((by rw [hg]; exact Nat.ne_of_lt (blk_lt (g := gb101) (o := .cells #[.int .i64 a0_0, .string a0_1, .string a0_2] 86 (0, 0)) (by (with_reducible repeat (first | refine blk_drewN ?_ _ | refine blk_drew ?_ | refine blk_alloc ?_ _)); exact BK101.out)) : gb101 ≠ gb102)); have n6_ := mz ((by rw [hg]; exact Nat.ne_of_gt (blk_lt (g := gb101) (o := .cells #[.int .i64 a0_0, .string a0_1, .string a0_2] 86 (0, 0)) (by (with_reducible repeat (first | refine blk_drewN ?_ _ | refine blk_drew ?_ | refine blk_alloc ?_ _)); exact BK101.out)) : gb102 ≠ gb101)); clear BK101; clear HB; have BK101 := n0_; have HB := n1_; have BK102 := n2_; have GW102 := n3_; have GE102 := n4_; have NB101_102 := n5_; have NB102_101 := n6_; clear n0_ n1_ n2_ n3_ n4_ n5_ n6_; clear hb hbox hg; have hnb13 := NB101_102.out; have hnc13 := NB102_101.out; have hcz14_0 : w12.cell? ⟨gb101, 0, none⟩ = some (.int .i64 a0_0) := (blk_cell BK101.out 0).trans rfl; have hcz14_1 : w12.cell? ⟨gb101, 1, none⟩ = some (.string a0_1) := (blk_cell BK101.out 1).trans rfl; have hcz14_2 : w12.cell? ⟨gb101, 2, none⟩ = some (.string a0_2) := (blk_cell BK101.out 2).trans rfl; have hfz14_0 := blk_frozen BK101.out 0; have hfz14_1 := blk_frozen BK101.out 1; have hfz14_2 := blk_frozen BK101.out 2; have hcz15_0 : w12.cell? ⟨gb102, 0, none⟩ = some (.int .i64 a1_0) := (blk_cell BK102.out 0).trans rfl; have hcz15_1 : w12.cell? ⟨gb102, 1, none⟩ = some (.string a1_1) := (blk_cell BK102.out 1).trans rfl; have hcz15_2 : w12.cell? ⟨gb102, 2, none⟩ = some (.string a1_2) := (blk_cell BK102.out 2).trans rfl; have hfz15_0 := blk_frozen BK102.out 0; have hfz15_1 := blk_frozen BK102.out 1; have hfz15_2 := blk_frozen BK102.out 2))
        go_ret
        exact ⟨by first | rfl | (simp [errW_none, errW_some] <;> rfl) | (simp [*, errW_none, errW_some] <;> rfl), by repeat (first | (with_reducible first | exact HB.out | apply below_alloc | apply pw_below_drewN | apply below_drew1 | refine below_set ?_ GE101.out | refine below_set ?_ GE102.out) | exact HB.out)⟩
    · rw [if_neg c4] at H
      have c4b0 : (a0_1.toList == a1_1.toList) = false := beq_eq_false_iff_ne.mpr c4
      have c4b1 : (a0_1.toList != a1_1.toList) = true := bne_iff_ne.mpr c4
      obtain rfl := Option.some.inj H
      go_enter Try.func76, Try.ntmps76
      go_wp2_with (first | ((with_reducible refine gate_dst (N := 2) rfl ?_); refine box_event ?hg (N := 2) ?hd (cs := #[.int .i64 a0_0, .string a0_1, .string a0_2]) (t := 86) ?hr ?_; (case hd => rfl); (case hg => rfl); (case hr => first | (go_simp; done) | (go_simp; rfl)); intro gb101 hg w16 hbox hb; have n0_ := mz (below_step (by repeat (first | (with_reducible first | exact HB.out | apply below_alloc | apply pw_below_drewN | apply below_drew1) | exact HB.out)) hb); have n1_ := mz (hbox); have n2_ := mz ((by rw [hg]; exact (below_size (by repeat (first | (with_reducible first | exact HB.out | apply below_alloc | apply pw_below_drewN | apply below_drew1) | exact HB.out))) : w.heap.size ≤ gb101)); have n3_ := mz ((by rw [hg]; exact (below_size (by repeat (first | (with_reducible first | exact HB.out | apply below_alloc | apply pw_below_drewN | apply below_drew1) | exact HB.out))) : w.heap.size ≤ gb101)); clear HB; have HB := n0_; have BK101 := n1_; have GW101 := n2_; have GE101 := n3_; clear n0_ n1_ n2_ n3_; clear hb hbox hg) | ((with_reducible refine gate_dst (N := 3) rfl ?_); refine box_event ?hg (N := 3) ?hd (cs := #[.int .i64 a1_0, .string a1_1, .string a1_2]) (t := 86) ?hr ?_; (case hd => rfl); (case hg => rfl); (case hr => first | (go_simp; done) | (go_simp; rfl)); intro gb102 hg w17 hbox hb; have n0_ := mz (blk_below (g := gb101) (o := .cells #[.int .i64 a0_0, .string a0_1, .string a0_2] 86 (0, 0)) (by (with_reducible repeat (first | refine blk_drewN ?_ _ | refine blk_drew ?_ | refine blk_alloc ?_ _)); exact BK101.out) hb); have n1_ := mz (below_step (by repeat (first | (with_reducible first | exact HB.out | apply below_alloc | apply pw_below_drewN | apply below_drew1 | refine below_set ?_ GE101.out) | exact HB.out)) hb); have n2_ := mz (hbox); have n3_ := mz ((by rw [hg]; exact (below_size (by repeat (first | (with_reducible first | exact HB.out | apply below_alloc | apply pw_below_drewN | apply below_drew1 | refine below_set ?_ GE101.out) | exact HB.out))) : w.heap.size ≤ gb102)); have n4_ := mz ((by rw [hg]; exact (below_size (by repeat (first | (with_reducible first | exact HB.out | apply below_alloc | apply pw_below_drewN | apply below_drew1 | refine below_set ?_ GE101.out) | exact HB.out))) : w.heap.size ≤ gb102)); have n5_ := mz ((by rw [hg]; exact Nat.ne_of_lt (blk_lt (g := gb101) (o := .cells #[.int .i64 a0_0, .string a0_1, .string a0_2] 86 (0, 0)) (by (with_reducible repeat (first | refine blk_drewN ?_ _ | refine blk_drew ?_ | refine blk_alloc ?_ _)); exact BK101.out)) : gb101 ≠ gb102)); have n6_ := mz ((by rw [hg]; exact Nat.ne_of_gt (blk_lt (g := gb101) (o := .cells #[.int .i64 a0_0, .string a0_1, .string a0_2] 86 (0, 0)) (by (with_reducible repeat (first | refine blk_drewN ?_ _ | refine blk_drew ?_ | refine blk_alloc ?_ _)); exact BK101.out)) : gb102 ≠ gb101)); clear BK101; clear HB; have BK101 := n0_; have HB := n1_; have BK102 := n2_; have GW102 := n3_; have GE102 := n4_; have NB101_102 := n5_; have NB102_101 := n6_; clear n0_ n1_ n2_ n3_ n4_ n5_ n6_; clear hb hbox hg; have hnb18 := NB101_102.out; have hnc18 := NB102_101.out; have hcz19_0 : w17.cell? ⟨gb101, 0, none⟩ = some (.int .i64 a0_0) := (blk_cell BK101.out 0).trans rfl; have hcz19_1 : w17.cell? ⟨gb101, 1, none⟩ = some (.string a0_1) := (blk_cell BK101.out 1).trans rfl; have hcz19_2 : w17.cell? ⟨gb101, 2, none⟩ = some (.string a0_2) := (blk_cell BK101.out 2).trans rfl; have hfz19_0 := blk_frozen BK101.out 0; have hfz19_1 := blk_frozen BK101.out 1; have hfz19_2 := blk_frozen BK101.out 2; have hcz20_0 : w17.cell? ⟨gb102, 0, none⟩ = some (.int .i64 a1_0) := (blk_cell BK102.out 0).trans rfl; have hcz20_1 : w17.cell? ⟨gb102, 1, none⟩ = some (.string a1_1) := (blk_cell BK102.out 1).trans rfl; have hcz20_2 : w17.cell? ⟨gb102, 2, none⟩ = some (.string a1_2) := (blk_cell BK102.out 2).trans rfl; have hfz20_0 := blk_frozen BK102.out 0; have hfz20_1 := blk_frozen BK102.out 1; have hfz20_2 := blk_frozen BK102.out 2))
      go_ret
      exact ⟨by first | rfl | (simp [errW_none, errW_some] <;> rfl) | (simp [*, errW_none, errW_some] <;> rfl), by repeat (first | (with_reducible first | exact HB.out | apply below_alloc | apply pw_below_drewN | apply below_drew1 | refine below_set ?_ GE101.out | refine below_set ?_ GE102.out) | exact HB.out)⟩
  · rw [if_neg c3] at H
    have c3b0 : (a0_0 == a1_0) = false := beq_eq_false_iff_ne.mpr c3
    have c3b1 : (a0_0 != a1_0) = true := bne_iff_ne.mpr c3
    obtain rfl := Option.some.inj H
    go_enter Try.func76, Try.ntmps76
    go_wp2_with (first | ((with_reducible refine gate_dst (N := 2) rfl ?_); refine box_event ?hg (N := 2) ?hd (cs := #[.int .i64 a0_0, .string a0_1, .string a0_2]) (t := 86) ?hr ?_; (case hd => rfl); (case hg => rfl); (case hr => first | (go_simp; done) | (go_simp; rfl)); intro gb101 hg w21 hbox hb; have n0_ := mz (below_step (by repeat (first | (with_reducible first | exact HB.out | apply below_alloc | apply pw_below_drewN | apply below_drew1) | exact HB.out)) hb); have n1_ := mz (hbox); have n2_ := mz ((by rw [hg]; exact (below_size (by repeat (first | (with_reducible first | exact HB.out | apply below_alloc | apply pw_below_drewN | apply below_drew1) | exact HB.out))) : w.heap.size ≤ gb101)); have n3_ := mz ((by rw [hg]; exact (below_size (by repeat (first | (with_reducible first | exact HB.out | apply below_alloc | apply pw_below_drewN | apply below_drew1) | exact HB.out))) : w.heap.size ≤ gb101)); clear HB; have HB := n0_; have BK101 := n1_; have GW101 := n2_; have GE101 := n3_; clear n0_ n1_ n2_ n3_; clear hb hbox hg) | ((with_reducible refine gate_dst (N := 3) rfl ?_); refine box_event ?hg (N := 3) ?hd (cs := #[.int .i64 a1_0, .string a1_1, .string a1_2]) (t := 86) ?hr ?_; (case hd => rfl); (case hg => rfl); (case hr => first | (go_simp; done) | (go_simp; rfl)); intro gb102 hg w22 hbox hb; have n0_ := mz (blk_below (g := gb101) (o := .cells #[.int .i64 a0_0, .string a0_1, .string a0_2] 86 (0, 0)) (by (with_reducible repeat (first | refine blk_drewN ?_ _ | refine blk_drew ?_ | refine blk_alloc ?_ _)); exact BK101.out) hb); have n1_ := mz (below_step (by repeat (first | (with_reducible first | exact HB.out | apply below_alloc | apply pw_below_drewN | apply below_drew1 | refine below_set ?_ GE101.out) | exact HB.out)) hb); have n2_ := mz (hbox); have n3_ := mz ((by rw [hg]; exact (below_size (by repeat (first | (with_reducible first | exact HB.out | apply below_alloc | apply pw_below_drewN | apply below_drew1 | refine below_set ?_ GE101.out) | exact HB.out))) : w.heap.size ≤ gb102)); have n4_ := mz ((by rw [hg]; exact (below_size (by repeat (first | (with_reducible first | exact HB.out | apply below_alloc | apply pw_below_drewN | apply below_drew1 | refine below_set ?_ GE101.out) | exact HB.out))) : w.heap.size ≤ gb102)); have n5_ := mz ((by rw [hg]; exact Nat.ne_of_lt (blk_lt (g := gb101) (o := .cells #[.int .i64 a0_0, .string a0_1, .string a0_2] 86 (0, 0)) (by (with_reducible repeat (first | refine blk_drewN ?_ _ | refine blk_drew ?_ | refine blk_alloc ?_ _)); exact BK101.out)) : gb101 ≠ gb102)); have n6_ := mz ((by rw [hg]; exact Nat.ne_of_gt (blk_lt (g := gb101) (o := .cells #[.int .i64 a0_0, .string a0_1, .string a0_2] 86 (0, 0)) (by (with_reducible repeat (first | refine blk_drewN ?_ _ | refine blk_drew ?_ | refine blk_alloc ?_ _)); exact BK101.out)) : gb102 ≠ gb101)); clear BK101; clear HB; have BK101 := n0_; have HB := n1_; have BK102 := n2_; have GW102 := n3_; have GE102 := n4_; have NB101_102 := n5_; have NB102_101 := n6_; clear n0_ n1_ n2_ n3_ n4_ n5_ n6_; clear hb hbox hg; have hnb23 := NB101_102.out; have hnc23 := NB102_101.out; have hcz24_0 : w22.cell? ⟨gb101, 0, none⟩ = some (.int .i64 a0_0) := (blk_cell BK101.out 0).trans rfl; have hcz24_1 : w22.cell? ⟨gb101, 1, none⟩ = some (.string a0_1) := (blk_cell BK101.out 1).trans rfl; have hcz24_2 : w22.cell? ⟨gb101, 2, none⟩ = some (.string a0_2) := (blk_cell BK101.out 2).trans rfl; have hfz24_0 := blk_frozen BK101.out 0; have hfz24_1 := blk_frozen BK101.out 1; have hfz24_2 := blk_frozen BK101.out 2; have hcz25_0 : w22.cell? ⟨gb102, 0, none⟩ = some (.int .i64 a1_0) := (blk_cell BK102.out 0).trans rfl; have hcz25_1 : w22.cell? ⟨gb102, 1, none⟩ = some (.string a1_1) := (blk_cell BK102.out 1).trans rfl; have hcz25_2 : w22.cell? ⟨gb102, 2, none⟩ = some (.string a1_2) := (blk_cell BK102.out 2).trans rfl; have hfz25_0 := blk_frozen BK102.out 0; have hfz25_1 := blk_frozen BK102.out 1; have hfz25_2 := blk_frozen BK102.out 2))
    go_ret
    exact ⟨by first | rfl | (simp [errW_none, errW_some] <;> rfl) | (simp [*, errW_none, errW_some] <;> rfl), by repeat (first | (with_reducible first | exact HB.out | apply below_alloc | apply pw_below_drewN | apply below_drew1 | refine below_set ?_ GE101.out | refine below_set ?_ GE102.out) | exact HB.out)⟩
end
section
attribute [local go_sem] max2_int min2_int max_two min_two max_three min_three max_four min_four
def laws_eqPartS.l0 : Nat → List (S86) → List (S86) → Int → Option (Bool)
  | 0, _, _, _ => none
  | k + 1, x0, x1, x5 => if x5 < (x0.length : Int) then (if 0 ≤ x5 then (if x5 < (x1.length : Int) then ((laws_eqPart.f ((rd_T86 x0 x5).f0) ((rd_T86 x0 x5).f1) ((rd_T86 x0 x5).f2) ((rd_T86 x1 x5).f0) ((rd_T86 x1 x5).f1) ((rd_T86 x1 x5).f2)).bind fun t103 => (if t103 = true then (laws_eqPartS.l0 k x0 x1 (wrap64 (x5 + 1))) else (some false))) else (none)) else (none)) else (some true)
def laws_eqPartS.f (k : Nat) (l0 : List (S86)) (l1 : List (S86)) : Option (Bool) := if (l0.length : Int) = (l1.length : Int) then (laws_eqPartS.l0 k l0 l1 0) else (some false)
def laws_eqPartS.T6 : Bool × List (List Nat × List Nat) := (true, [([], []), ([], []), ([0, 1], [0, 1]), ([2], [2]), ([], []), ([], []), ([4, 5], [4, 5]), ([6], [6]), ([3, 7], [3, 7]), ([8], [8])])
def laws_eqPartS.B6 : List Nat := [0, 0, 3, 7, 0, 0, 48, 112, 255, 511]
theorem laws_eqPartS.tab6 : rtab .any (opsOf Try.f63 6) = laws_eqPartS.T6 := by kernel_rfl
theorem laws_eqPartS.bits6 : waitsOk laws_eqPartS.T6.2 laws_eqPartS.B6 = true := by kernel_rfl
set_option maxHeartbeats 8000000 in
set_option maxRecDepth 100000 in
theorem laws_eqPartS.calls (k : Nat) (A0 : Option Addr) (c0 : Nat) (l0 : List (S86)) (A1 : Option Addr) (c1 : Nat) (l1 : List (S86)) (r : Bool) (w : World) (hr0 : Kd.C k86 w A0 l0.length l0) (hc0 : l0.length ≤ c0) (hr1 : Kd.C k86 w A1 l1.length l1) (hc1 : l1.length ≤ c1) (h : laws_eqPartS.f k l0 l1 = some r) :
    Calls Try.prog 63 #[.slice A0 l0.length c0, .slice A1 l1.length c1] w fun e w' => e = .returned (.bool r) ∧ Below w.heap.size w w' := by
  have hu86 := Try.underlying86
  have HR0 := mz hr0
  have HC0 := mz hc0
  clear hr0 hc0
  have HR1 := mz hr1
  have HC1 := mz hc1
  clear hr1 hc1
  have HB := mz (Below.refl w.heap.size w)
  have H : (if (l0.length : Int) = (l1.length : Int) then (laws_eqPartS.l0 k l0 l1 0) else (some false)) = some r := h
  clear h
  by_cases c3 : (l0.length : Int) = (l1.length : Int)
  · rw [if_pos c3] at H
    have c3b0 : ((l0.length : Int) == (l1.length : Int)) = true := beq_iff_eq.mpr c3
    have c3b1 : ((l0.length : Int) != (l1.length : Int)) = false := bne_eq_false_iff_eq.mpr c3
    have c3b2 : (l0.length == l1.length) = true := by first | simpa using c3 | (simp at c3 ⊢; omega)
    clear c3
    have H' := mz H
    clear H
    go_enter Try.func63, Try.ntmps63
    go_wp2
    go_loopg [5] k (fun kq v5 w' => ∃ (x5_1 : Int), v5 = .int .i64 x5_1 ∧ Aside0 (laws_eqPartS.l0 kq l0 l1 x5_1 = some r) ∧ Aside0 (kq ≤ k) ∧ Aside0 (Below w.heap.size w w'))
    case atStart => exact ⟨(0), (by first | rfl | (simp; done) | (simp [*]; done)), H', ⟨Nat.le_refl _⟩, ⟨by repeat (first | (with_reducible first | exact HB.out | apply below_alloc | apply pw_below_drewN | apply below_drew1) | exact HB.out)⟩⟩
    case round =>
      clear H'
      try clear c1
      try clear p2
      try clear c3
      try clear c3b0
      try clear c3b1
      try clear c3b2
      obtain ⟨x5_1, rfl, HA, HK1, HB⟩ := hrel
      cases gk with
      | zero => exact absurd HA.out (by simp [laws_eqPartS.l0])
      | succ k1 =>
        have H := HA.out
        clear HA
        simp only [laws_eqPartS.l0] at H
        by_cases c4 : x5_1 < (l0.length : Int)
        · rw [if_pos c4] at H
          have c4b0 : decide (x5_1 < (l0.length : Int)) = true := decide_eq_true c4
          clear c4
          by_cases c5 : 0 ≤ x5_1
          · rw [if_pos c5] at H
            have c5b0 : decide (0 ≤ x5_1) = true := decide_eq_true c5
            clear c5
            by_cases c6 : x5_1 < (l1.length : Int)
            · rw [if_pos c6] at H
              have c6b0 : decide (x5_1 < (l1.length : Int)) = true := decide_eq_true c6
              clear c6
              replace H := be0_ H
              obtain ⟨t103, A70, H⟩ := H
              replace H : (if t103 = true then (laws_eqPartS.l0 k1 l0 l1 (wrap64 (x5_1 + 1))) else (some false)) = some r := H
              have A7 := mz A70
              clear A70
              by_cases c8 : t103 = true
              · subst c8
                have H1 : (laws_eqPartS.l0 k1 l0 l1 (wrap64 (x5_1 + 1))) = some r := by rw [if_pos rfl] at H; exact H
                clear H
                have H := H1
                clear H1
                have H' := mz H
                clear H
                try go_wp2
                have n0_ := mz (below_drew1 HB.out)
                clear HB
                have HB := n0_
                clear n0_
                have p101 : 0 ≤ (x5_1 : Int) := of_decide_eq_true (by first | (with_reducible assumption) | assumption)
                have q101 : x5_1 < (l0.length : Int) := of_decide_eq_true (by first | (with_reducible assumption) | assumption)
                obtain ⟨ad101, e101, hx101_0, hx101_1, hx101_2⟩ := at_T86 HR0.out x5_1 p101 q101
                have hw101_2 := hx101_2
                have hw101_1 := hx101_1
                have hw101_0 := hx101_0
                cases e101
                replace hx101_0 := bc_ HB.out hx101_0
                replace hx101_1 := bc_ HB.out hx101_1
                replace hx101_2 := bc_ HB.out hx101_2
                replace p101 := eq_true p101
                replace q101 := eq_true q101
                have p102 : 0 ≤ (x5_1 : Int) := of_decide_eq_true (by first | (with_reducible assumption) | assumption)
                have q102 : x5_1 < (l1.length : Int) := of_decide_eq_true (by first | (with_reducible assumption) | assumption)
                obtain ⟨ad102, e102, hx102_0, hx102_1, hx102_2⟩ := at_T86 HR1.out x5_1 p102 q102
                have hw102_2 := hx102_2
                have hw102_1 := hx102_1
                have hw102_0 := hx102_0
                cases e102
                replace hx102_0 := bc_ HB.out hx102_0
                replace hx102_1 := bc_ HB.out hx102_1
                replace hx102_2 := bc_ HB.out hx102_2
                replace p102 := eq_true p102
                replace q102 := eq_true q102
                refine start_ (n := 10) (S := fun w' => w'.cell? (ad101.add ((x5_1).toNat * 3)) = some (.int .i64 ((rd_T86 l0 x5_1).f0)) ∧ w'.cell? ⟨(ad101.add ((x5_1).toNat * 3)).block, (ad101.add ((x5_1).toNat * 3)).off + 1, none⟩ = some (.string ((rd_T86 l0 x5_1).f1)) ∧ w'.cell? ⟨(ad101.add ((x5_1).toNat * 3)).block, (ad101.add ((x5_1).toNat * 3)).off + 2, none⟩ = some (.string ((rd_T86 l0 x5_1).f2)) ∧ w'.cell? (ad102.add ((x5_1).toNat * 3)) = some (.int .i64 ((rd_T86 l1 x5_1).f0)) ∧ w'.cell? ⟨(ad102.add ((x5_1).toNat * 3)).block, (ad102.add ((x5_1).toNat * 3)).off + 1, none⟩ = some (.string ((rd_T86 l1 x5_1).f1)) ∧ w'.cell? ⟨(ad102.add ((x5_1).toNat * 3)).block, (ad102.add ((x5_1).toNat * 3)).off + 2, none⟩ = some (.string ((rd_T86 l1 x5_1).f2))) (ds := []) #[false, false, false, false, false, false, false, false, false, false] (by kernel_rfl) rfl rfl ⟨(bc_ HB.out hw101_0 :), (bc_ HB.out hw101_1 :), (bc_ HB.out hw101_2 :), (bc_ HB.out hw102_0 :), (bc_ HB.out hw102_1 :), (bc_ HB.out hw102_2 :)⟩ (fun hHeld => ?_); refine with_tabW laws_eqPartS.tab6 laws_eqPartS.bits6 (fun HT_ HW_ => ?_)
                generalize wr.drew = w9 at HB hx101_0 hx101_1 hx101_2 hx102_0 hx102_1 hx102_2 hHeld ⊢
                refine pure_ (i := 0) (N := some 17) (v := ?_) (a' := ?_) #[true, false, false, false, false, false, false, false, false, false] rfl rfl (any_of HT_.out (by kernel_rfl)) (fun _ _ _ h => h) (Or.inl ⟨by rfl, ?_⟩) ?_ ?_
                rotate_left
                · intro w'
                  go_simp
                  with_reducible rfl
                rotate_left
                · simp only [Act.put, List.setIfInBounds_toArray, List.set_cons_zero, List.set_cons_succ, i64_w, i32_w]
                  rfl
                refine pure_ (i := 1) (N := some 18) (v := ?_) (a' := ?_) #[true, true, false, false, false, false, false, false, false, false] rfl rfl (any_of HT_.out (by kernel_rfl)) (fun _ _ _ h => h) (Or.inl ⟨by rfl, ?_⟩) ?_ ?_
                rotate_left
                · intro w'
                  go_simp
                  with_reducible rfl
                rotate_left
                · simp only [Act.put, List.setIfInBounds_toArray, List.set_cons_zero, List.set_cons_succ, i64_w, i32_w]
                  rfl
                refine pure_ (i := 2) (N := some 19) (v := ?_) (a' := ?_) #[true, true, true, false, false, false, false, false, false, false] rfl rfl (any_of HT_.out (by kernel_rfl)) (fun _ _ _ h => h) (Or.inl ⟨by rfl, ?_⟩) ?_ ?_
                rotate_left
                · intro w'
                  go_simp
                  with_reducible rfl
                rotate_left
                · simp only [Act.put, List.setIfInBounds_toArray, List.set_cons_zero, List.set_cons_succ, i64_w, i32_w]
                  rfl
                refine pure_ (i := 4) (N := some 21) (v := ?_) (a' := ?_) #[true, true, true, false, true, false, false, false, false, false] rfl rfl (any_of HT_.out (by kernel_rfl)) (fun _ _ _ h => h) (Or.inl ⟨by rfl, ?_⟩) ?_ ?_
                rotate_left
                · intro w'
                  go_simp
                  with_reducible rfl
                rotate_left
                · simp only [Act.put, List.setIfInBounds_toArray, List.set_cons_zero, List.set_cons_succ, i64_w, i32_w]
                  rfl
                refine pure_ (i := 5) (N := some 22) (v := ?_) (a' := ?_) #[true, true, true, false, true, true, false, false, false, false] rfl rfl (any_of HT_.out (by kernel_rfl)) (fun _ _ _ h => h) (Or.inl ⟨by rfl, ?_⟩) ?_ ?_
                rotate_left
                · intro w'
                  go_simp
                  with_reducible rfl
                rotate_left
                · simp only [Act.put, List.setIfInBounds_toArray, List.set_cons_zero, List.set_cons_succ, i64_w, i32_w]
                  rfl
                refine pure_ (i := 6) (N := some 23) (v := ?_) (a' := ?_) #[true, true, true, false, true, true, true, false, false, false] rfl rfl (any_of HT_.out (by kernel_rfl)) (fun _ _ _ h => h) (Or.inl ⟨by rfl, ?_⟩) ?_ ?_
                rotate_left
                · intro w'
                  go_simp
                  with_reducible rfl
                rotate_left
                · simp only [Act.put, List.setIfInBounds_toArray, List.set_cons_zero, List.set_cons_succ, i64_w, i32_w]
                  rfl
                refine take_ (i := 3) (N := some 20) (v := ?_) (a' := ?_) #[true, true, true, true, true, true, true, false, false, false] rfl rfl (take_ofW HT_.out HW_.out (by kernel_rfl)) (fun _ _ _ h => h) (Or.inl ⟨by rfl, ?_⟩) hHeld ?_ ?_
                rotate_left
                · rintro w' ⟨s0, s1, s2, s3, s4, s5⟩
                  go_simp
                  with_reducible rfl
                rotate_left
                · simp only [Act.put, List.setIfInBounds_toArray, List.set_cons_zero, List.set_cons_succ, i64_w, i32_w]
                  rfl
                refine take_ (i := 7) (N := some 24) (v := ?_) (a' := ?_) #[true, true, true, true, true, true, true, true, false, false] rfl rfl (take_ofW HT_.out HW_.out (by kernel_rfl)) (fun _ _ _ h => h) (Or.inl ⟨by rfl, ?_⟩) hHeld ?_ ?_
                rotate_left
                · rintro w' ⟨s0, s1, s2, s3, s4, s5⟩
                  go_simp
                  with_reducible rfl
                rotate_left
                · simp only [Act.put, List.setIfInBounds_toArray, List.set_cons_zero, List.set_cons_succ, i64_w, i32_w]
                  rfl
                refine one_ (i := 8) (N := some 25) #[true, true, true, true, true, true, true, true, true, false] rfl rfl (one_of HT_.out (by kernel_rfl)) (by decide) (fun K hK => ?_)
                refine goes_ Try.func76 (by kernel_rfl) rfl #[.agg #[.int .i64 ((rd_T86 l0 x5_1).f0), .string ((rd_T86 l0 x5_1).f1), .string ((rd_T86 l0 x5_1).f2)], .agg #[.int .i64 ((rd_T86 l1 x5_1).f0), .string ((rd_T86 l1 x5_1).f1), .string ((rd_T86 l1 x5_1).f2)]] (by rfl) rfl rfl (by (try simp only [List.map_toArray, List.map_cons, List.map_nil]); first | done | rfl | (simp only [List.length_drop, List.length_take]; rfl)) ?_
                with_reducible refine (laws_eqPart.calls ((rd_T86 l0 x5_1).f0) ((rd_T86 l0 x5_1).f1) ((rd_T86 l0 x5_1).f2) ((rd_T86 l1 x5_1).f0) ((rd_T86 l1 x5_1).f1) ((rd_T86 l1 x5_1).f2) true _ A7.out).mono ?_
                rintro e w10 ⟨rfl, hb⟩
                refine ⟨_, rfl, ?_⟩
                have n0_ := mz (below_step (by repeat (first | (with_reducible first | exact HB.out | apply below_alloc | apply pw_below_drewN | apply below_drew1) | exact HB.out)) hb)
                clear HB
                have HB := n0_
                clear n0_
                (try clear hb)
                (try clear hb2)
                (try clear hk)
                (try clear hi)
                refine hK.out _ _ ⟨(bc_ HB.out hw101_0 :), (bc_ HB.out hw101_1 :), (bc_ HB.out hw101_2 :), (bc_ HB.out hw102_0 :), (bc_ HB.out hw102_1 :), (bc_ HB.out hw102_2 :)⟩ (fun hHeld => ?_)
                clear hK K
                refine norm_ (a' := ?_) ?_ ?_
                rotate_left
                · show Act.put _ (some 25) _ = _
                  simp only [Act.put, List.setIfInBounds_toArray, List.set_cons_zero, List.set_cons_succ, i64_w, i32_w]
                  rfl
                refine pure_ (i := 9) (N := some 26) (v := ?_) (a' := ?_) #[true, true, true, true, true, true, true, true, true, true] rfl rfl (any_of HT_.out (by kernel_rfl)) (fun _ _ _ h => h) (Or.inl ⟨by rfl, ?_⟩) ?_ ?_
                rotate_left
                · intro w'
                  go_simp
                  with_reducible rfl
                rotate_left
                · simp only [Act.put, List.setIfInBounds_toArray, List.set_cons_zero, List.set_cons_succ, i64_w, i32_w]
                  rfl
                refine done_ (done_of HT_.out (by kernel_rfl)) ?_
                try go_wp2
                go_roundg k1
                case measure => have := HK1.out; omega
                case rel => exact ⟨(wrap64 (x5_1 + 1)), (by first | rfl | (simp; done) | (simp [*]; done)), H', ⟨by have := HK1.out; omega⟩, ⟨by repeat (first | (with_reducible first | exact HB.out | apply below_alloc | apply pw_below_drewN | apply below_drew1) | exact HB.out)⟩⟩
              · replace c8 := Bool.eq_false_iff.mpr c8
                subst c8
                have H1 : (some false) = some r := by rw [if_neg (show ¬ (false = true) by decide)] at H; exact H
                clear H
                have H := H1
                clear H1
                obtain rfl := Option.some.inj H
                try go_wp2
                have n0_ := mz (below_drew1 HB.out)
                clear HB
                have HB := n0_
                clear n0_
                have p101 : 0 ≤ (x5_1 : Int) := of_decide_eq_true (by first | (with_reducible assumption) | assumption)
                have q101 : x5_1 < (l0.length : Int) := of_decide_eq_true (by first | (with_reducible assumption) | assumption)
                obtain ⟨ad101, e101, hx101_0, hx101_1, hx101_2⟩ := at_T86 HR0.out x5_1 p101 q101
                have hw101_2 := hx101_2
                have hw101_1 := hx101_1
                have hw101_0 := hx101_0
                cases e101
                replace hx101_0 := bc_ HB.out hx101_0
                replace hx101_1 := bc_ HB.out hx101_1
                replace hx101_2 := bc_ HB.out hx101_2
                replace p101 := eq_true p101
                replace q101 := eq_true q101
                have p102 : 0 ≤ (x5_1 : Int) := of_decide_eq_true (by first | (with_reducible assumption) | assumption)
                have q102 : x5_1 < (l1.length : Int) := of_decide_eq_true (by first | (with_reducible assumption) | assumption)
                obtain ⟨ad102, e102, hx102_0, hx102_1, hx102_2⟩ := at_T86 HR1.out x5_1 p102 q102
                have hw102_2 := hx102_2
                have hw102_1 := hx102_1
                have hw102_0 := hx102_0
                cases e102
                replace hx102_0 := bc_ HB.out hx102_0
                replace hx102_1 := bc_ HB.out hx102_1
                replace hx102_2 := bc_ HB.out hx102_2
                replace p102 := eq_true p102
                replace q102 := eq_true q102
                refine start_ (n := 10) (S := fun w' => w'.cell? (ad101.add ((x5_1).toNat * 3)) = some (.int .i64 ((rd_T86 l0 x5_1).f0)) ∧ w'.cell? ⟨(ad101.add ((x5_1).toNat * 3)).block, (ad101.add ((x5_1).toNat * 3)).off + 1, none⟩ = some (.string ((rd_T86 l0 x5_1).f1)) ∧ w'.cell? ⟨(ad101.add ((x5_1).toNat * 3)).block, (ad101.add ((x5_1).toNat * 3)).off + 2, none⟩ = some (.string ((rd_T86 l0 x5_1).f2)) ∧ w'.cell? (ad102.add ((x5_1).toNat * 3)) = some (.int .i64 ((rd_T86 l1 x5_1).f0)) ∧ w'.cell? ⟨(ad102.add ((x5_1).toNat * 3)).block, (ad102.add ((x5_1).toNat * 3)).off + 1, none⟩ = some (.string ((rd_T86 l1 x5_1).f1)) ∧ w'.cell? ⟨(ad102.add ((x5_1).toNat * 3)).block, (ad102.add ((x5_1).toNat * 3)).off + 2, none⟩ = some (.string ((rd_T86 l1 x5_1).f2))) (ds := []) #[false, false, false, false, false, false, false, false, false, false] (by kernel_rfl) rfl rfl ⟨(bc_ HB.out hw101_0 :), (bc_ HB.out hw101_1 :), (bc_ HB.out hw101_2 :), (bc_ HB.out hw102_0 :), (bc_ HB.out hw102_1 :), (bc_ HB.out hw102_2 :)⟩ (fun hHeld => ?_); refine with_tabW laws_eqPartS.tab6 laws_eqPartS.bits6 (fun HT_ HW_ => ?_)
                generalize wr.drew = w11 at HB hx101_0 hx101_1 hx101_2 hx102_0 hx102_1 hx102_2 hHeld ⊢
                refine pure_ (i := 0) (N := some 17) (v := ?_) (a' := ?_) #[true, false, false, false, false, false, false, false, false, false] rfl rfl (any_of HT_.out (by kernel_rfl)) (fun _ _ _ h => h) (Or.inl ⟨by rfl, ?_⟩) ?_ ?_
                rotate_left
                · intro w'
                  go_simp
                  with_reducible rfl
                rotate_left
                · simp only [Act.put, List.setIfInBounds_toArray, List.set_cons_zero, List.set_cons_succ, i64_w, i32_w]
                  rfl
                refine pure_ (i := 1) (N := some 18) (v := ?_) (a' := ?_) #[true, true, false, false, false, false, false, false, false, false] rfl rfl (any_of HT_.out (by kernel_rfl)) (fun _ _ _ h => h) (Or.inl ⟨by rfl, ?_⟩) ?_ ?_
                rotate_left
                · intro w'
                  go_simp
                  with_reducible rfl
                rotate_left
                · simp only [Act.put, List.setIfInBounds_toArray, List.set_cons_zero, List.set_cons_succ, i64_w, i32_w]
                  rfl
                refine pure_ (i := 2) (N := some 19) (v := ?_) (a' := ?_) #[true, true, true, false, false, false, false, false, false, false] rfl rfl (any_of HT_.out (by kernel_rfl)) (fun _ _ _ h => h) (Or.inl ⟨by rfl, ?_⟩) ?_ ?_
                rotate_left
                · intro w'
                  go_simp
                  with_reducible rfl
                rotate_left
                · simp only [Act.put, List.setIfInBounds_toArray, List.set_cons_zero, List.set_cons_succ, i64_w, i32_w]
                  rfl
                refine pure_ (i := 4) (N := some 21) (v := ?_) (a' := ?_) #[true, true, true, false, true, false, false, false, false, false] rfl rfl (any_of HT_.out (by kernel_rfl)) (fun _ _ _ h => h) (Or.inl ⟨by rfl, ?_⟩) ?_ ?_
                rotate_left
                · intro w'
                  go_simp
                  with_reducible rfl
                rotate_left
                · simp only [Act.put, List.setIfInBounds_toArray, List.set_cons_zero, List.set_cons_succ, i64_w, i32_w]
                  rfl
                refine pure_ (i := 5) (N := some 22) (v := ?_) (a' := ?_) #[true, true, true, false, true, true, false, false, false, false] rfl rfl (any_of HT_.out (by kernel_rfl)) (fun _ _ _ h => h) (Or.inl ⟨by rfl, ?_⟩) ?_ ?_
                rotate_left
                · intro w'
                  go_simp
                  with_reducible rfl
                rotate_left
                · simp only [Act.put, List.setIfInBounds_toArray, List.set_cons_zero, List.set_cons_succ, i64_w, i32_w]
                  rfl
                refine pure_ (i := 6) (N := some 23) (v := ?_) (a' := ?_) #[true, true, true, false, true, true, true, false, false, false] rfl rfl (any_of HT_.out (by kernel_rfl)) (fun _ _ _ h => h) (Or.inl ⟨by rfl, ?_⟩) ?_ ?_
                rotate_left
                · intro w'
                  go_simp
                  with_reducible rfl
                rotate_left
                · simp only [Act.put, List.setIfInBounds_toArray, List.set_cons_zero, List.set_cons_succ, i64_w, i32_w]
                  rfl
                refine take_ (i := 3) (N := some 20) (v := ?_) (a' := ?_) #[true, true, true, true, true, true, true, false, false, false] rfl rfl (take_ofW HT_.out HW_.out (by kernel_rfl)) (fun _ _ _ h => h) (Or.inl ⟨by rfl, ?_⟩) hHeld ?_ ?_
                rotate_left
                · rintro w' ⟨s0, s1, s2, s3, s4, s5⟩
                  go_simp
                  with_reducible rfl
                rotate_left
                · simp only [Act.put, List.setIfInBounds_toArray, List.set_cons_zero, List.set_cons_succ, i64_w, i32_w]
                  rfl
                refine take_ (i := 7) (N := some 24) (v := ?_) (a' := ?_) #[true, true, true, true, true, true, true, true, false, false] rfl rfl (take_ofW HT_.out HW_.out (by kernel_rfl)) (fun _ _ _ h => h) (Or.inl ⟨by rfl, ?_⟩) hHeld ?_ ?_
                rotate_left
                · rintro w' ⟨s0, s1, s2, s3, s4, s5⟩
                  go_simp
                  with_reducible rfl
                rotate_left
                · simp only [Act.put, List.setIfInBounds_toArray, List.set_cons_zero, List.set_cons_succ, i64_w, i32_w]
                  rfl
                refine one_ (i := 8) (N := some 25) #[true, true, true, true, true, true, true, true, true, false] rfl rfl (one_of HT_.out (by kernel_rfl)) (by decide) (fun K hK => ?_)
                refine goes_ Try.func76 (by kernel_rfl) rfl #[.agg #[.int .i64 ((rd_T86 l0 x5_1).f0), .string ((rd_T86 l0 x5_1).f1), .string ((rd_T86 l0 x5_1).f2)], .agg #[.int .i64 ((rd_T86 l1 x5_1).f0), .string ((rd_T86 l1 x5_1).f1), .string ((rd_T86 l1 x5_1).f2)]] (by rfl) rfl rfl (by (try simp only [List.map_toArray, List.map_cons, List.map_nil]); first | done | rfl | (simp only [List.length_drop, List.length_take]; rfl)) ?_
                with_reducible refine (laws_eqPart.calls ((rd_T86 l0 x5_1).f0) ((rd_T86 l0 x5_1).f1) ((rd_T86 l0 x5_1).f2) ((rd_T86 l1 x5_1).f0) ((rd_T86 l1 x5_1).f1) ((rd_T86 l1 x5_1).f2) false _ A7.out).mono ?_
                rintro e w12 ⟨rfl, hb⟩
                refine ⟨_, rfl, ?_⟩
                have n0_ := mz (below_step (by repeat (first | (with_reducible first | exact HB.out | apply below_alloc | apply pw_below_drewN | apply below_drew1) | exact HB.out)) hb)
                clear HB
                have HB := n0_
                clear n0_
                (try clear hb)
                (try clear hb2)
                (try clear hk)
                (try clear hi)
                refine hK.out _ _ ⟨(bc_ HB.out hw101_0 :), (bc_ HB.out hw101_1 :), (bc_ HB.out hw101_2 :), (bc_ HB.out hw102_0 :), (bc_ HB.out hw102_1 :), (bc_ HB.out hw102_2 :)⟩ (fun hHeld => ?_)
                clear hK K
                refine norm_ (a' := ?_) ?_ ?_
                rotate_left
                · show Act.put _ (some 25) _ = _
                  simp only [Act.put, List.setIfInBounds_toArray, List.set_cons_zero, List.set_cons_succ, i64_w, i32_w]
                  rfl
                refine pure_ (i := 9) (N := some 26) (v := ?_) (a' := ?_) #[true, true, true, true, true, true, true, true, true, true] rfl rfl (any_of HT_.out (by kernel_rfl)) (fun _ _ _ h => h) (Or.inl ⟨by rfl, ?_⟩) ?_ ?_
                rotate_left
                · intro w'
                  go_simp
                  with_reducible rfl
                rotate_left
                · simp only [Act.put, List.setIfInBounds_toArray, List.set_cons_zero, List.set_cons_succ, i64_w, i32_w]
                  rfl
                refine done_ (done_of HT_.out (by kernel_rfl)) ?_
                try go_wp2
                go_ret
                exact ⟨by first | rfl | (simp [errW_none, errW_some] <;> rfl) | (simp [*, errW_none, errW_some] <;> rfl), by repeat (first | (with_reducible first | exact HB.out | apply below_alloc | apply pw_below_drewN | apply below_drew1) | exact HB.out)⟩
            · rw [if_neg c6] at H
              exact absurd H (by simp)
          · rw [if_neg c5] at H
            exact absurd H (by simp)
        · rw [if_neg c4] at H
          have c4b0 : decide (x5_1 < (l0.length : Int)) = false := decide_eq_false c4
          clear c4
          obtain rfl := Option.some.inj H
          go_wp2
          go_ret
          exact ⟨by first | rfl | (simp [errW_none, errW_some] <;> rfl) | (simp [*, errW_none, errW_some] <;> rfl), by repeat (first | (with_reducible first | exact HB.out | apply below_alloc | apply pw_below_drewN | apply below_drew1) | exact HB.out)⟩
  · rw [if_neg c3] at H
    have c3b0 : ((l0.length : Int) == (l1.length : Int)) = false := beq_eq_false_iff_ne.mpr c3
    have c3b1 : ((l0.length : Int) != (l1.length : Int)) = true := bne_iff_ne.mpr c3
    have c3b2 : (l0.length == l1.length) = false := by first | simpa using c3 | (simp at c3 ⊢; omega)
    obtain rfl := Option.some.inj H
    go_enter Try.func63, Try.ntmps63
    go_wp2
    go_ret
    exact ⟨by first | rfl | (simp [errW_none, errW_some] <;> rfl) | (simp [*, errW_none, errW_some] <;> rfl), by repeat (first | (with_reducible first | exact HB.out | apply below_alloc | apply pw_below_drewN | apply below_drew1) | exact HB.out)⟩
end
end Go.Proofs.Ytoldjejfninhkaa.X
