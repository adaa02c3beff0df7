/- The law FnLines of the program: its proof, part 2. -/
import Derived.Test.YtokklflckaikgaaProg
import Derived.Below
import Derived.Deep.Draws
import Derived.Deep.AppendLies
import Derived.Maps.AppendAt
import Derived.OwnWalk
import Derived.Laws.BytesArg
import Derived.Laws.MakeOwn
import Derived.Laws.OwnMore
import Derived.Deep.OwnRows
import Derived.Tactics
import Derived.Lib.ConvBytes
import Derived.Laws.Slices
import Derived.WalkKit
import Derived.KernelRfl
import Derived.RowKit3
import Derived.Deep.LoopGhost
import Derived.Deep.QuietTactic
import Derived.BigQuiet
import Derived.WideLaws
import Derived.Deep.DeepCutAuto
import Derived.Deep.CutBlock
import Derived.Deep.RegionHeld3
import Derived.Laws.Rows
import Derived.Lib.AppendStr
import Derived.ArgAppend
import Derived.Laws.IdiomCopy
import Derived.OrdersHeld
import Derived.Laws.BitsLemmas
import Derived.RowKit
import Derived.Test.YtokklflckaikgaaMFnLines1
import Derived.Shelf.Abstract
import Derived.Deep.DrawnRows
import Derived.Deep.RegionWith
import Derived.Shelf.Strings.OnBuilder
import Derived.WalkSpells
set_option linter.unusedVariables false
set_option linter.unusedSimpArgs false
namespace Go.Proofs.Ytokklflckaikgaa.X
open Go.RowKit Go.Proofs.YtokklflckaikgaaW.PrintWords Go.Proofs.YtokklflckaikgaaW.PrintLast Go.Proofs.YtokklflckaikgaaW.PrintMore
theorem mz {p : Prop} (h : p) : Aside0 p := ⟨h⟩
theorem be0_ {α β : Type} {x : Option α} {f : α → Option β} {b : β} (h : x.bind f = some b) : ∃ a, x = some a ∧ f a = some b := Option.bind_eq_some_iff.mp h
theorem bc_ {w w1 : World} {p : Addr} {v : Value} (hb : Below w.heap.size w w1) (h : w.cell? p = some v) : w1.cell? p = some v := (hb.cell (World.block_lt_of_cell? w _ h)).trans h
section
attribute [local go_sem] max2_int min2_int max_two min_two max_three min_three max_four min_four
def errW : Option Int → Value
  | none => .nilIface
  | some c => .iface 0 (.int .i64 c)
theorem errW_none : errW none = .nilIface := rfl
theorem errW_some (c : Int) : errW (some c) = .iface 0 (.int .i64 c) := rfl

theorem info3 : (Try.prog.info? 3).map (fun i => (i.zero, i.size, i.bytes)) = some (some (.int .i64 0), 1, 8) := by kernel_rfl
theorem info9 : (Try.prog.info? 9).map (fun i => (i.zero, i.size, i.bytes)) = some (some (.string ⟨#[]⟩), 1, 16) := by kernel_rfl
theorem info44 : (Try.prog.info? 44).map (fun i => (i.zero, i.size, i.bytes)) = some (some (.agg #[(.int .i64 0), (.int .i64 0), (.int .i64 0)]), 3, 24) := by kernel_rfl
theorem info49 : (Try.prog.info? 49).map (fun i => (i.zero, i.size, i.bytes)) = some (some (.agg #[(.int .i64 0), (.int .i64 0), (.int .i64 0)]), 3, 24) := by kernel_rfl
-- the values' own types
structure S8 where
  f0 : Int
  f1 : Int
  f2 : Bool
  f3 : Int
def z8 : S8 := ⟨(0 : Int), (0 : Int), false, (0 : Int)⟩
structure S13 where
  f0 : ByteArray
  f1 : Int
def z13 : S13 := ⟨(⟨#[]⟩ : ByteArray), (0 : Int)⟩
structure S14 where
  f0 : ByteArray
  f1 : Int
def z14 : S14 := ⟨(⟨#[]⟩ : ByteArray), (0 : Int)⟩
structure S44 where
  f0 : Int
  f1 : Int
  f2 : Int
def z44 : S44 := ⟨(0 : Int), (0 : Int), (0 : Int)⟩
def k44 : Kd S44 := Kd.iso (Kd.pair (Kd.int .i64) (Kd.pair (Kd.int .i64) (Kd.int .i64))) (fun x : S44 => (x.f0, x.f1, x.f2))
theorem k44_openM {w : World} {base : Nat} {ok : Nat → Prop} {x : S44} {cs : List Value} (h : k44.M w base ok x cs) : cs = [.int .i64 x.f0, .int .i64 x.f1, .int .i64 x.f2] := by
  obtain ⟨_, _, rfl, rfl, ⟨_, _, rfl, rfl, rfl⟩⟩ := h
  exact rfl
theorem k44_mkM (w : World) (base : Nat) (ok : Nat → Prop) (x : S44)  : k44.M w base ok x [.int .i64 x.f0, .int .i64 x.f1, .int .i64 x.f2] := ⟨[.int .i64 x.f0], [.int .i64 x.f1, .int .i64 x.f2], rfl, rfl, ⟨[.int .i64 x.f1], [.int .i64 x.f2], rfl, rfl, rfl⟩⟩
structure S49 where
  f0 : Int
  f1 : Int
  f2 : Int
def z49 : S49 := ⟨(0 : Int), (0 : Int), (0 : Int)⟩
def k49 : Kd S49 := Kd.iso (Kd.pair (Kd.int .i64) (Kd.pair (Kd.int .i64) (Kd.int .i64))) (fun x : S49 => (x.f0, x.f1, x.f2))
theorem k49_openM {w : World} {base : Nat} {ok : Nat → Prop} {x : S49} {cs : List Value} (h : k49.M w base ok x cs) : cs = [.int .i64 x.f0, .int .i64 x.f1, .int .i64 x.f2] := by
  obtain ⟨_, _, rfl, rfl, ⟨_, _, rfl, rfl, rfl⟩⟩ := h
  exact rfl
theorem k49_mkM (w : World) (base : Nat) (ok : Nat → Prop) (x : S49)  : k49.M w base ok x [.int .i64 x.f0, .int .i64 x.f1, .int .i64 x.f2] := ⟨[.int .i64 x.f0], [.int .i64 x.f1, .int .i64 x.f2], rfl, rfl, ⟨[.int .i64 x.f1], [.int .i64 x.f2], rfl, rfl, rfl⟩⟩
end
theorem Ev.succ {α : Type} {g : Nat → Option α} {r : α} (h : Ev (fun k => g (k + 1)) r) : Ev g r := Ev.step (fun _ => rfl) h
theorem ev_eq {α : Type} {g : Nat → Option α} {r r' : α} (h : Ev g r) (e : r = r') : Ev g r' := e ▸ h
theorem w64 {n : Int} (h : -9223372036854775808 ≤ n) (h' : n ≤ 9223372036854775807) : wrap64 n = n := by unfold wrap64; omega
theorem rdOf_get {α : Type} (d : α) (l : List α) (i : Nat) (h : i < l.length) : rdOf d l (i : Int) = l[i] := by
  simp [rdOf, List.getD_eq_getElem?_getD, h]
section
attribute [local go_sem] max2_int min2_int max_two min_two max_three min_three max_four min_four
def impl_isPlain.f (a0 : Int) : Option (Bool) := if a0 ≥ 97 then (if a0 ≤ 122 then (some true) else (if a0 ≥ 48 then (if a0 ≤ 57 then (some true) else (if a0 = 32 then (some true) else (if a0 = 46 then (some true) else (some (a0 == 44))))) else (if a0 = 32 then (some true) else (if a0 = 46 then (some true) else (some (a0 == 44)))))) else (if a0 ≥ 48 then (if a0 ≤ 57 then (some true) else (if a0 = 32 then (some true) else (if a0 = 46 then (some true) else (some (a0 == 44))))) else (if a0 = 32 then (some true) else (if a0 = 46 then (some true) else (some (a0 == 44)))))
set_option maxHeartbeats 8000000 in
set_option maxRecDepth 100000 in
theorem impl_isPlain.calls (a0 : Int) (r : Bool) (w : World) (h : impl_isPlain.f a0 = some r) :
    Calls Try.prog 57 #[.int .u8 a0] w fun e w' => e = .returned (.bool r) ∧ Drawn0 w w' := by
  have H : (if a0 ≥ 97 then (if a0 ≤ 122 then (some true) else (if a0 ≥ 48 then (if a0 ≤ 57 then (some true) else (if a0 = 32 then (some true) else (if a0 = 46 then (some true) else (some (a0 == 44))))) else (if a0 = 32 then (some true) else (if a0 = 46 then (some true) else (some (a0 == 44)))))) else (if a0 ≥ 48 then (if a0 ≤ 57 then (some true) else (if a0 = 32 then (some true) else (if a0 = 46 then (some true) else (some (a0 == 44))))) else (if a0 = 32 then (some true) else (if a0 = 46 then (some true) else (some (a0 == 44)))))) = some r := h
  clear h
  by_cases c2 : a0 ≥ 97
  · rw [if_pos c2] at H
    have c2b0 : decide (97 ≤ a0) = true := decide_eq_true c2
    clear c2
    by_cases c3 : a0 ≤ 122
    · rw [if_pos c3] at H
      have c3b0 : decide (a0 ≤ 122) = true := decide_eq_true c3
      clear c3
      obtain rfl := Option.some.inj H
      go_enter Try.func57, Try.ntmps57
      go_wp2
      go_ret
      exact ⟨by first | rfl | (simp; done) | (simp [*]; done), by repeat (first | exact Drawn0.refl _ | apply Drawn0.step)⟩
    · rw [if_neg c3] at H
      have c3b0 : decide (a0 ≤ 122) = false := decide_eq_false c3
      clear c3
      by_cases c4 : a0 ≥ 48
      · rw [if_pos c4] at H
        have c4b0 : decide (48 ≤ a0) = true := decide_eq_true c4
        clear c4
        by_cases c5 : a0 ≤ 57
        · rw [if_pos c5] at H
          have c5b0 : decide (a0 ≤ 57) = true := decide_eq_true c5
          clear c5
          obtain rfl := Option.some.inj H
          go_enter Try.func57, Try.ntmps57
          go_wp2
          go_ret
          exact ⟨by first | rfl | (simp; done) | (simp [*]; done), by repeat (first | exact Drawn0.refl _ | apply Drawn0.step)⟩
        · rw [if_neg c5] at H
          have c5b0 : decide (a0 ≤ 57) = false := decide_eq_false c5
          clear c5
          by_cases c6 : a0 = 32
          · rw [if_pos c6] at H
            have c6b0 : (a0 == 32) = true := beq_iff_eq.mpr c6
            have c6b1 : (a0 != 32) = false := bne_eq_false_iff_eq.mpr c6
            clear c6
            obtain rfl := Option.some.inj H
            go_enter Try.func57, Try.ntmps57
            go_wp2
            go_ret
            exact ⟨by first | rfl | (simp; done) | (simp [*]; done), by repeat (first | exact Drawn0.refl _ | apply Drawn0.step)⟩
          · rw [if_neg c6] at H
            have c6b0 : (a0 == 32) = false := beq_eq_false_iff_ne.mpr c6
            have c6b1 : (a0 != 32) = true := bne_iff_ne.mpr c6
            by_cases c7 : a0 = 46
            · rw [if_pos c7] at H
              have c7b0 : (a0 == 46) = true := beq_iff_eq.mpr c7
              have c7b1 : (a0 != 46) = false := bne_eq_false_iff_eq.mpr c7
              clear c7
              obtain rfl := Option.some.inj H
              go_enter Try.func57, Try.ntmps57
              go_wp2
              go_ret
              exact ⟨by first | rfl | (simp; done) | (simp [*]; done), by repeat (first | exact Drawn0.refl _ | apply Drawn0.step)⟩
            · rw [if_neg c7] at H
              have c7b0 : (a0 == 46) = false := beq_eq_false_iff_ne.mpr c7
              have c7b1 : (a0 != 46) = true := bne_iff_ne.mpr c7
              obtain rfl := Option.some.inj H
              go_enter Try.func57, Try.ntmps57
              go_wp2
              go_ret
              exact ⟨by first | rfl | (simp; done) | (simp [*]; done), by repeat (first | exact Drawn0.refl _ | apply Drawn0.step)⟩
      · rw [if_neg c4] at H
        have c4b0 : decide (48 ≤ a0) = false := decide_eq_false c4
        clear c4
        by_cases c8 : a0 = 32
        · rw [if_pos c8] at H
          have c8b0 : (a0 == 32) = true := beq_iff_eq.mpr c8
          have c8b1 : (a0 != 32) = false := bne_eq_false_iff_eq.mpr c8
          clear c8
          obtain rfl := Option.some.inj H
          go_enter Try.func57, Try.ntmps57
          go_wp2
          go_ret
          exact ⟨by first | rfl | (simp; done) | (simp [*]; done), by repeat (first | exact Drawn0.refl _ | apply Drawn0.step)⟩
        · rw [if_neg c8] at H
          have c8b0 : (a0 == 32) = false := beq_eq_false_iff_ne.mpr c8
          have c8b1 : (a0 != 32) = true := bne_iff_ne.mpr c8
          by_cases c9 : a0 = 46
          · rw [if_pos c9] at H
            have c9b0 : (a0 == 46) = true := beq_iff_eq.mpr c9
            have c9b1 : (a0 != 46) = false := bne_eq_false_iff_eq.mpr c9
            clear c9
            obtain rfl := Option.some.inj H
            go_enter Try.func57, Try.ntmps57
            go_wp2
            go_ret
            exact ⟨by first | rfl | (simp; done) | (simp [*]; done), by repeat (first | exact Drawn0.refl _ | apply Drawn0.step)⟩
          · rw [if_neg c9] at H
            have c9b0 : (a0 == 46) = false := beq_eq_false_iff_ne.mpr c9
            have c9b1 : (a0 != 46) = true := bne_iff_ne.mpr c9
            obtain rfl := Option.some.inj H
            go_enter Try.func57, Try.ntmps57
            go_wp2
            go_ret
            exact ⟨by first | rfl | (simp; done) | (simp [*]; done), by repeat (first | exact Drawn0.refl _ | apply Drawn0.step)⟩
  · rw [if_neg c2] at H
    have c2b0 : decide (97 ≤ a0) = false := decide_eq_false c2
    clear c2
    by_cases c10 : a0 ≥ 48
    · rw [if_pos c10] at H
      have c10b0 : decide (48 ≤ a0) = true := decide_eq_true c10
      clear c10
      by_cases c11 : a0 ≤ 57
      · rw [if_pos c11] at H
        have c11b0 : decide (a0 ≤ 57) = true := decide_eq_true c11
        clear c11
        obtain rfl := Option.some.inj H
        go_enter Try.func57, Try.ntmps57
        go_wp2
        go_ret
        exact ⟨by first | rfl | (simp; done) | (simp [*]; done), by repeat (first | exact Drawn0.refl _ | apply Drawn0.step)⟩
      · rw [if_neg c11] at H
        have c11b0 : decide (a0 ≤ 57) = false := decide_eq_false c11
        clear c11
        by_cases c12 : a0 = 32
        · rw [if_pos c12] at H
          have c12b0 : (a0 == 32) = true := beq_iff_eq.mpr c12
          have c12b1 : (a0 != 32) = false := bne_eq_false_iff_eq.mpr c12
          clear c12
          obtain rfl := Option.some.inj H
          go_enter Try.func57, Try.ntmps57
          go_wp2
          go_ret
          exact ⟨by first | rfl | (simp; done) | (simp [*]; done), by repeat (first | exact Drawn0.refl _ | apply Drawn0.step)⟩
        · rw [if_neg c12] at H
          have c12b0 : (a0 == 32) = false := beq_eq_false_iff_ne.mpr c12
          have c12b1 : (a0 != 32) = true := bne_iff_ne.mpr c12
          by_cases c13 : a0 = 46
          · rw [if_pos c13] at H
            have c13b0 : (a0 == 46) = true := beq_iff_eq.mpr c13
            have c13b1 : (a0 != 46) = false := bne_eq_false_iff_eq.mpr c13
            clear c13
            obtain rfl := Option.some.inj H
            go_enter Try.func57, Try.ntmps57
            go_wp2
            go_ret
            exact ⟨by first | rfl | (simp; done) | (simp [*]; done), by repeat (first | exact Drawn0.refl _ | apply Drawn0.step)⟩
          · rw [if_neg c13] at H
            have c13b0 : (a0 == 46) = false := beq_eq_false_iff_ne.mpr c13
            have c13b1 : (a0 != 46) = true := bne_iff_ne.mpr c13
            obtain rfl := Option.some.inj H
            go_enter Try.func57, Try.ntmps57
            go_wp2
            go_ret
            exact ⟨by first | rfl | (simp; done) | (simp [*]; done), by repeat (first | exact Drawn0.refl _ | apply Drawn0.step)⟩
    · rw [if_neg c10] at H
      have c10b0 : decide (48 ≤ a0) = false := decide_eq_false c10
      clear c10
      by_cases c14 : a0 = 32
      · rw [if_pos c14] at H
        have c14b0 : (a0 == 32) = true := beq_iff_eq.mpr c14
        have c14b1 : (a0 != 32) = false := bne_eq_false_iff_eq.mpr c14
        clear c14
        obtain rfl := Option.some.inj H
        go_enter Try.func57, Try.ntmps57
        go_wp2
        go_ret
        exact ⟨by first | rfl | (simp; done) | (simp [*]; done), by repeat (first | exact Drawn0.refl _ | apply Drawn0.step)⟩
      · rw [if_neg c14] at H
        have c14b0 : (a0 == 32) = false := beq_eq_false_iff_ne.mpr c14
        have c14b1 : (a0 != 32) = true := bne_iff_ne.mpr c14
        by_cases c15 : a0 = 46
        · rw [if_pos c15] at H
          have c15b0 : (a0 == 46) = true := beq_iff_eq.mpr c15
          have c15b1 : (a0 != 46) = false := bne_eq_false_iff_eq.mpr c15
          clear c15
          obtain rfl := Option.some.inj H
          go_enter Try.func57, Try.ntmps57
          go_wp2
          go_ret
          exact ⟨by first | rfl | (simp; done) | (simp [*]; done), by repeat (first | exact Drawn0.refl _ | apply Drawn0.step)⟩
        · rw [if_neg c15] at H
          have c15b0 : (a0 == 46) = false := beq_eq_false_iff_ne.mpr c15
          have c15b1 : (a0 != 46) = true := bne_iff_ne.mpr c15
          obtain rfl := Option.some.inj H
          go_enter Try.func57, Try.ntmps57
          go_wp2
          go_ret
          exact ⟨by first | rfl | (simp; done) | (simp [*]; done), by repeat (first | exact Drawn0.refl _ | apply Drawn0.step)⟩
end
section
attribute [local go_sem] max2_int min2_int max_two min_two max_three min_three max_four min_four
def impl_isWordText.l0 : Nat → ByteArray → Int → Int → Option (Bool)
  | 0, _, _, _ => none
  | k + 1, x0, x5, x6 => if x6 < x5 then (if 0 ≤ x6 then (if x6 < (x0.size : Int) then ((impl_isPlain.f (bt x0 x6)).bind fun t101 => (if t101 = true then (if (bt x0 x6) = 32 then (some false) else (impl_isWordText.l0 k x0 x5 (wrap64 (x6 + 1)))) else (some false))) else (none)) else (none)) else (if x0.toList = ([] : List UInt8) then (some false) else (some (decide ((x0.size : Int) ≤ 80))))
def impl_isWordText.f (k : Nat) (a0 : ByteArray) : Option (Bool) := impl_isWordText.l0 k a0 (a0.size : Int) 0
set_option maxHeartbeats 8000000 in
set_option maxRecDepth 100000 in
theorem impl_isWordText.calls (k : Nat) (a0 : ByteArray) (r : Bool) (w : World) (h : impl_isWordText.f k a0 = some r) :
    Calls Try.prog 54 #[.string a0] w fun e w' => e = .returned (.bool r) ∧ Drawn0 w w' := by
  have H : (impl_isWordText.l0 k a0 (a0.size : Int) 0) = some r := h
  clear h
  have H' := mz H
  clear H
  go_enter Try.func54, Try.ntmps54
  go_wp2
  go_loopg [6] k (fun kq v6 w' => ∃ (x6_1 : Int), v6 = .int .i64 x6_1 ∧ Aside0 (impl_isWordText.l0 kq a0 (a0.size : Int) x6_1 = some r) ∧ Aside0 (kq ≤ k) ∧ Drawn0 w w')
  case atStart => exact ⟨(0), (by first | rfl | (simp; done) | (simp [*]; done)), H', ⟨Nat.le_refl _⟩, by repeat (first | exact Drawn0.refl _ | apply Drawn0.step)⟩
  case round =>
    clear H'
    obtain ⟨x6_1, rfl, HA, HK1, ⟨m1, rfl⟩⟩ := hrel
    cases gk with
    | zero => exact absurd HA.out (by simp [impl_isWordText.l0])
    | succ k1 =>
      have H := HA.out
      clear HA
      simp only [impl_isWordText.l0] at H
      by_cases c2 : x6_1 < (a0.size : Int)
      · rw [if_pos c2] at H
        have c2b0 : decide (x6_1 < (a0.size : Int)) = true := decide_eq_true c2
        clear c2
        by_cases c3 : 0 ≤ x6_1
        · rw [if_pos c3] at H
          have c3b0 : decide (0 ≤ x6_1) = true := decide_eq_true c3
          clear c3
          by_cases c4 : x6_1 < (a0.size : Int)
          · rw [if_pos c4] at H
            have c4b0 : decide (x6_1 < (a0.size : Int)) = true := decide_eq_true c4
            clear c4
            replace H := be0_ H
            obtain ⟨t101, A60, H⟩ := H
            replace H : (if t101 = true then (if (bt a0 x6_1) = 32 then (some false) else (impl_isWordText.l0 k1 a0 (a0.size : Int) (wrap64 (x6_1 + 1)))) else (some false)) = some r := H
            have A6 := mz A60
            clear A60
            by_cases c7 : t101 = true
            · subst c7
              have H1 : (if (bt a0 x6_1) = 32 then (some false) else (impl_isWordText.l0 k1 a0 (a0.size : Int) (wrap64 (x6_1 + 1)))) = some r := by rw [if_pos rfl] at H; exact H
              clear H
              have H := H1
              clear H1
              by_cases c9 : (bt a0 x6_1) = 32
              · rw [if_pos c9] at H
                have c9b0 : ((bt a0 x6_1) == 32) = true := beq_iff_eq.mpr c9
                have c9b1 : ((bt a0 x6_1) != 32) = false := bne_eq_false_iff_eq.mpr c9
                clear c9
                obtain rfl := Option.some.inj H
                have p5 : 0 ≤ (x6_1 : Int) := of_decide_eq_true (by first | (with_reducible assumption) | assumption)
                have q5 : x6_1 < (a0.size : Int) := of_decide_eq_true (by first | (with_reducible assumption) | assumption)
                have hx5 := bt_at a0 x6_1
                replace p5 := eq_true p5
                replace q5 := eq_true q5
                go_wp2_with (first | ((with_reducible refine gate_callee (f := 57) rfl ?_); refine goesL_ (some 12) rfl rfl Try.func57 (by kernel_rfl) rfl #[.int .u8 (bt a0 x6_1)] rfl (by (try simp only [List.map_toArray, List.map_cons, List.map_nil]); first | done | rfl | (simp only [List.length_drop, List.length_take]; rfl)) ?_; (with_reducible refine (impl_isPlain.calls (bt a0 x6_1) true _ A6.out).mono ?_); rintro e w' ⟨rfl, ⟨nd, rfl⟩⟩; refine ⟨_, rfl, ?_⟩; have p8 : 0 ≤ (x6_1 : Int) := of_decide_eq_true (by first | (with_reducible assumption) | assumption); have q8 : x6_1 < (a0.size : Int) := of_decide_eq_true (by first | (with_reducible assumption) | assumption); have hx8 := bt_at a0 x6_1; replace p8 := eq_true p8; replace q8 := eq_true q8))
                go_ret
                exact ⟨by first | rfl | (simp; done) | (simp [*]; done), by repeat (first | exact Drawn0.refl _ | apply Drawn0.step)⟩
              · rw [if_neg c9] at H
                have c9b0 : ((bt a0 x6_1) == 32) = false := beq_eq_false_iff_ne.mpr c9
                have c9b1 : ((bt a0 x6_1) != 32) = true := bne_iff_ne.mpr c9
                have H' := mz H
                clear H
                have p5 : 0 ≤ (x6_1 : Int) := of_decide_eq_true (by first | (with_reducible assumption) | assumption)
                have q5 : x6_1 < (a0.size : Int) := of_decide_eq_true (by first | (with_reducible assumption) | assumption)
                have hx5 := bt_at a0 x6_1
                replace p5 := eq_true p5
                replace q5 := eq_true q5
                go_wp2_with (first | ((with_reducible refine gate_callee (f := 57) rfl ?_); refine goesL_ (some 12) rfl rfl Try.func57 (by kernel_rfl) rfl #[.int .u8 (bt a0 x6_1)] rfl (by (try simp only [List.map_toArray, List.map_cons, List.map_nil]); first | done | rfl | (simp only [List.length_drop, List.length_take]; rfl)) ?_; (with_reducible refine (impl_isPlain.calls (bt a0 x6_1) true _ A6.out).mono ?_); rintro e w' ⟨rfl, ⟨nd, rfl⟩⟩; refine ⟨_, rfl, ?_⟩; have p8 : 0 ≤ (x6_1 : Int) := of_decide_eq_true (by first | (with_reducible assumption) | assumption); have q8 : x6_1 < (a0.size : Int) := of_decide_eq_true (by first | (with_reducible assumption) | assumption); have hx8 := bt_at a0 x6_1; replace p8 := eq_true p8; replace q8 := eq_true q8))
                go_roundg k1
                case measure => have := HK1.out; omega
                case rel => exact ⟨(wrap64 (x6_1 + 1)), (by first | rfl | (simp; done) | (simp [*]; done)), H', ⟨by have := HK1.out; omega⟩, by repeat (first | exact Drawn0.refl _ | apply Drawn0.step)⟩
            · replace c7 := Bool.eq_false_iff.mpr c7
              subst c7
              have H1 : (some false) = some r := by rw [if_neg (show ¬ (false = true) by decide)] at H; exact H
              clear H
              have H := H1
              clear H1
              obtain rfl := Option.some.inj H
              have p5 : 0 ≤ (x6_1 : Int) := of_decide_eq_true (by first | (with_reducible assumption) | assumption)
              have q5 : x6_1 < (a0.size : Int) := of_decide_eq_true (by first | (with_reducible assumption) | assumption)
              have hx5 := bt_at a0 x6_1
              replace p5 := eq_true p5
              replace q5 := eq_true q5
              go_wp2_with (first | ((with_reducible refine gate_callee (f := 57) rfl ?_); refine goesL_ (some 12) rfl rfl Try.func57 (by kernel_rfl) rfl #[.int .u8 (bt a0 x6_1)] rfl (by (try simp only [List.map_toArray, List.map_cons, List.map_nil]); first | done | rfl | (simp only [List.length_drop, List.length_take]; rfl)) ?_; (with_reducible refine (impl_isPlain.calls (bt a0 x6_1) false _ A6.out).mono ?_); rintro e w' ⟨rfl, ⟨nd, rfl⟩⟩; refine ⟨_, rfl, ?_⟩))
              go_ret
              exact ⟨by first | rfl | (simp; done) | (simp [*]; done), by repeat (first | exact Drawn0.refl _ | apply Drawn0.step)⟩
          · rw [if_neg c4] at H
            exact absurd H (by simp)
        · rw [if_neg c3] at H
          exact absurd H (by simp)
      · rw [if_neg c2] at H
        have c2b0 : decide (x6_1 < (a0.size : Int)) = false := decide_eq_false c2
        clear c2
        by_cases c10 : a0.toList = ([] : List UInt8)
        · rw [if_pos c10] at H
          have c10b0 : (a0.toList == ([] : List UInt8)) = true := beq_iff_eq.mpr c10
          have c10b1 : (a0.toList != ([] : List UInt8)) = false := bne_eq_false_iff_eq.mpr c10
          clear c10
          obtain rfl := Option.some.inj H
          go_wp2
          go_ret
          exact ⟨by first | rfl | (simp; done) | (simp [*]; done), by repeat (first | exact Drawn0.refl _ | apply Drawn0.step)⟩
        · rw [if_neg c10] at H
          have c10b0 : (a0.toList == ([] : List UInt8)) = false := beq_eq_false_iff_ne.mpr c10
          have c10b1 : (a0.toList != ([] : List UInt8)) = true := bne_iff_ne.mpr c10
          obtain rfl := Option.some.inj H
          go_wp2
          go_ret
          exact ⟨by first | rfl | (simp; done) | (simp [*]; done), by repeat (first | exact Drawn0.refl _ | apply Drawn0.step)⟩
end
section
attribute [local go_sem] max2_int min2_int max_two min_two max_three min_three max_four min_four
def spec_l1In.f (a0 : Int) (a1 : Int) (a2 : Int) : Option (Bool) := if a0 ≥ a1 then (some (decide (a0 ≤ a2))) else (some false)
set_option maxHeartbeats 8000000 in
set_option maxRecDepth 100000 in
theorem spec_l1In.calls (a0 : Int) (a1 : Int) (a2 : Int) (r : Bool) (w : World) (h : spec_l1In.f a0 a1 a2 = some r) :
    Calls Try.prog 34 #[.int .i64 a0, .int .i64 a1, .int .i64 a2] w fun e w' => e = .returned (.bool r) ∧ Drawn0 w w' := by
  have H : (if a0 ≥ a1 then (some (decide (a0 ≤ a2))) else (some false)) = some r := h
  clear h
  by_cases c4 : a0 ≥ a1
  · rw [if_pos c4] at H
    have c4b0 : decide (a1 ≤ a0) = true := decide_eq_true c4
    clear c4
    obtain rfl := Option.some.inj H
    go_enter Try.func34, Try.ntmps34
    go_wp2
    go_ret
    exact ⟨by first | rfl | (simp; done) | (simp [*]; done), by repeat (first | exact Drawn0.refl _ | apply Drawn0.step)⟩
  · rw [if_neg c4] at H
    have c4b0 : decide (a1 ≤ a0) = false := decide_eq_false c4
    clear c4
    obtain rfl := Option.some.inj H
    go_enter Try.func34, Try.ntmps34
    go_wp2
    go_ret
    exact ⟨by first | rfl | (simp; done) | (simp [*]; done), by repeat (first | exact Drawn0.refl _ | apply Drawn0.step)⟩
end
section
attribute [local go_sem] max2_int min2_int max_two min_two max_three min_three max_four min_four
def spec_l1Plain.f (a0 : Int) : Option (Bool) := if a0 ≥ 97 then (if a0 ≤ 122 then (some true) else (if a0 ≥ 48 then (if a0 ≤ 57 then (some true) else (if a0 = 32 then (some true) else (if a0 = 46 then (some true) else (some (a0 == 44))))) else (if a0 = 32 then (some true) else (if a0 = 46 then (some true) else (some (a0 == 44)))))) else (if a0 ≥ 48 then (if a0 ≤ 57 then (some true) else (if a0 = 32 then (some true) else (if a0 = 46 then (some true) else (some (a0 == 44))))) else (if a0 = 32 then (some true) else (if a0 = 46 then (some true) else (some (a0 == 44)))))
set_option maxHeartbeats 8000000 in
set_option maxRecDepth 100000 in
theorem spec_l1Plain.calls (a0 : Int) (r : Bool) (w : World) (h : spec_l1Plain.f a0 = some r) :
    Calls Try.prog 59 #[.int .u8 a0] w fun e w' => e = .returned (.bool r) ∧ Drawn0 w w' := by
  have H : (if a0 ≥ 97 then (if a0 ≤ 122 then (some true) else (if a0 ≥ 48 then (if a0 ≤ 57 then (some true) else (if a0 = 32 then (some true) else (if a0 = 46 then (some true) else (some (a0 == 44))))) else (if a0 = 32 then (some true) else (if a0 = 46 then (some true) else (some (a0 == 44)))))) else (if a0 ≥ 48 then (if a0 ≤ 57 then (some true) else (if a0 = 32 then (some true) else (if a0 = 46 then (some true) else (some (a0 == 44))))) else (if a0 = 32 then (some true) else (if a0 = 46 then (some true) else (some (a0 == 44)))))) = some r := h
  clear h
  by_cases c2 : a0 ≥ 97
  · rw [if_pos c2] at H
    have c2b0 : decide (97 ≤ a0) = true := decide_eq_true c2
    clear c2
    by_cases c3 : a0 ≤ 122
    · rw [if_pos c3] at H
      have c3b0 : decide (a0 ≤ 122) = true := decide_eq_true c3
      clear c3
      obtain rfl := Option.some.inj H
      go_enter Try.func59, Try.ntmps59
      go_wp2
      go_ret
      exact ⟨by first | rfl | (simp; done) | (simp [*]; done), by repeat (first | exact Drawn0.refl _ | apply Drawn0.step)⟩
    · rw [if_neg c3] at H
      have c3b0 : decide (a0 ≤ 122) = false := decide_eq_false c3
      clear c3
      by_cases c4 : a0 ≥ 48
      · rw [if_pos c4] at H
        have c4b0 : decide (48 ≤ a0) = true := decide_eq_true c4
        clear c4
        by_cases c5 : a0 ≤ 57
        · rw [if_pos c5] at H
          have c5b0 : decide (a0 ≤ 57) = true := decide_eq_true c5
          clear c5
          obtain rfl := Option.some.inj H
          go_enter Try.func59, Try.ntmps59
          go_wp2
          go_ret
          exact ⟨by first | rfl | (simp; done) | (simp [*]; done), by repeat (first | exact Drawn0.refl _ | apply Drawn0.step)⟩
        · rw [if_neg c5] at H
          have c5b0 : decide (a0 ≤ 57) = false := decide_eq_false c5
          clear c5
          by_cases c6 : a0 = 32
          · rw [if_pos c6] at H
            have c6b0 : (a0 == 32) = true := beq_iff_eq.mpr c6
            have c6b1 : (a0 != 32) = false := bne_eq_false_iff_eq.mpr c6
            clear c6
            obtain rfl := Option.some.inj H
            go_enter Try.func59, Try.ntmps59
            go_wp2
            go_ret
            exact ⟨by first | rfl | (simp; done) | (simp [*]; done), by repeat (first | exact Drawn0.refl _ | apply Drawn0.step)⟩
          · rw [if_neg c6] at H
            have c6b0 : (a0 == 32) = false := beq_eq_false_iff_ne.mpr c6
            have c6b1 : (a0 != 32) = true := bne_iff_ne.mpr c6
            by_cases c7 : a0 = 46
            · rw [if_pos c7] at H
              have c7b0 : (a0 == 46) = true := beq_iff_eq.mpr c7
              have c7b1 : (a0 != 46) = false := bne_eq_false_iff_eq.mpr c7
              clear c7
              obtain rfl := Option.some.inj H
              go_enter Try.func59, Try.ntmps59
              go_wp2
              go_ret
              exact ⟨by first | rfl | (simp; done) | (simp [*]; done), by repeat (first | exact Drawn0.refl _ | apply Drawn0.step)⟩
            · rw [if_neg c7] at H
              have c7b0 : (a0 == 46) = false := beq_eq_false_iff_ne.mpr c7
              have c7b1 : (a0 != 46) = true := bne_iff_ne.mpr c7
              obtain rfl := Option.some.inj H
              go_enter Try.func59, Try.ntmps59
              go_wp2
              go_ret
              exact ⟨by first | rfl | (simp; done) | (simp [*]; done), by repeat (first | exact Drawn0.refl _ | apply Drawn0.step)⟩
      · rw [if_neg c4] at H
        have c4b0 : decide (48 ≤ a0) = false := decide_eq_false c4
        clear c4
        by_cases c8 : a0 = 32
        · rw [if_pos c8] at H
          have c8b0 : (a0 == 32) = true := beq_iff_eq.mpr c8
          have c8b1 : (a0 != 32) = false := bne_eq_false_iff_eq.mpr c8
          clear c8
          obtain rfl := Option.some.inj H
          go_enter Try.func59, Try.ntmps59
          go_wp2
          go_ret
          exact ⟨by first | rfl | (simp; done) | (simp [*]; done), by repeat (first | exact Drawn0.refl _ | apply Drawn0.step)⟩
        · rw [if_neg c8] at H
          have c8b0 : (a0 == 32) = false := beq_eq_false_iff_ne.mpr c8
          have c8b1 : (a0 != 32) = true := bne_iff_ne.mpr c8
          by_cases c9 : a0 = 46
          · rw [if_pos c9] at H
            have c9b0 : (a0 == 46) = true := beq_iff_eq.mpr c9
            have c9b1 : (a0 != 46) = false := bne_eq_false_iff_eq.mpr c9
            clear c9
            obtain rfl := Option.some.inj H
            go_enter Try.func59, Try.ntmps59
            go_wp2
            go_ret
            exact ⟨by first | rfl | (simp; done) | (simp [*]; done), by repeat (first | exact Drawn0.refl _ | apply Drawn0.step)⟩
          · rw [if_neg c9] at H
            have c9b0 : (a0 == 46) = false := beq_eq_false_iff_ne.mpr c9
            have c9b1 : (a0 != 46) = true := bne_iff_ne.mpr c9
            obtain rfl := Option.some.inj H
            go_enter Try.func59, Try.ntmps59
            go_wp2
            go_ret
            exact ⟨by first | rfl | (simp; done) | (simp [*]; done), by repeat (first | exact Drawn0.refl _ | apply Drawn0.step)⟩
  · rw [if_neg c2] at H
    have c2b0 : decide (97 ≤ a0) = false := decide_eq_false c2
    clear c2
    by_cases c10 : a0 ≥ 48
    · rw [if_pos c10] at H
      have c10b0 : decide (48 ≤ a0) = true := decide_eq_true c10
      clear c10
      by_cases c11 : a0 ≤ 57
      · rw [if_pos c11] at H
        have c11b0 : decide (a0 ≤ 57) = true := decide_eq_true c11
        clear c11
        obtain rfl := Option.some.inj H
        go_enter Try.func59, Try.ntmps59
        go_wp2
        go_ret
        exact ⟨by first | rfl | (simp; done) | (simp [*]; done), by repeat (first | exact Drawn0.refl _ | apply Drawn0.step)⟩
      · rw [if_neg c11] at H
        have c11b0 : decide (a0 ≤ 57) = false := decide_eq_false c11
        clear c11
        by_cases c12 : a0 = 32
        · rw [if_pos c12] at H
          have c12b0 : (a0 == 32) = true := beq_iff_eq.mpr c12
          have c12b1 : (a0 != 32) = false := bne_eq_false_iff_eq.mpr c12
          clear c12
          obtain rfl := Option.some.inj H
          go_enter Try.func59, Try.ntmps59
          go_wp2
          go_ret
          exact ⟨by first | rfl | (simp; done) | (simp [*]; done), by repeat (first | exact Drawn0.refl _ | apply Drawn0.step)⟩
        · rw [if_neg c12] at H
          have c12b0 : (a0 == 32) = false := beq_eq_false_iff_ne.mpr c12
          have c12b1 : (a0 != 32) = true := bne_iff_ne.mpr c12
          by_cases c13 : a0 = 46
          · rw [if_pos c13] at H
            have c13b0 : (a0 == 46) = true := beq_iff_eq.mpr c13
            have c13b1 : (a0 != 46) = false := bne_eq_false_iff_eq.mpr c13
            clear c13
            obtain rfl := Option.some.inj H
            go_enter Try.func59, Try.ntmps59
            go_wp2
            go_ret
            exact ⟨by first | rfl | (simp; done) | (simp [*]; done), by repeat (first | exact Drawn0.refl _ | apply Drawn0.step)⟩
          · rw [if_neg c13] at H
            have c13b0 : (a0 == 46) = false := beq_eq_false_iff_ne.mpr c13
            have c13b1 : (a0 != 46) = true := bne_iff_ne.mpr c13
            obtain rfl := Option.some.inj H
            go_enter Try.func59, Try.ntmps59
            go_wp2
            go_ret
            exact ⟨by first | rfl | (simp; done) | (simp [*]; done), by repeat (first | exact Drawn0.refl _ | apply Drawn0.step)⟩
    · rw [if_neg c10] at H
      have c10b0 : decide (48 ≤ a0) = false := decide_eq_false c10
      clear c10
      by_cases c14 : a0 = 32
      · rw [if_pos c14] at H
        have c14b0 : (a0 == 32) = true := beq_iff_eq.mpr c14
        have c14b1 : (a0 != 32) = false := bne_eq_false_iff_eq.mpr c14
        clear c14
        obtain rfl := Option.some.inj H
        go_enter Try.func59, Try.ntmps59
        go_wp2
        go_ret
        exact ⟨by first | rfl | (simp; done) | (simp [*]; done), by repeat (first | exact Drawn0.refl _ | apply Drawn0.step)⟩
      · rw [if_neg c14] at H
        have c14b0 : (a0 == 32) = false := beq_eq_false_iff_ne.mpr c14
        have c14b1 : (a0 != 32) = true := bne_iff_ne.mpr c14
        by_cases c15 : a0 = 46
        · rw [if_pos c15] at H
          have c15b0 : (a0 == 46) = true := beq_iff_eq.mpr c15
          have c15b1 : (a0 != 46) = false := bne_eq_false_iff_eq.mpr c15
          clear c15
          obtain rfl := Option.some.inj H
          go_enter Try.func59, Try.ntmps59
          go_wp2
          go_ret
          exact ⟨by first | rfl | (simp; done) | (simp [*]; done), by repeat (first | exact Drawn0.refl _ | apply Drawn0.step)⟩
        · rw [if_neg c15] at H
          have c15b0 : (a0 == 46) = false := beq_eq_false_iff_ne.mpr c15
          have c15b1 : (a0 != 46) = true := bne_iff_ne.mpr c15
          obtain rfl := Option.some.inj H
          go_enter Try.func59, Try.ntmps59
          go_wp2
          go_ret
          exact ⟨by first | rfl | (simp; done) | (simp [*]; done), by repeat (first | exact Drawn0.refl _ | apply Drawn0.step)⟩
end
section
attribute [local go_sem] max2_int min2_int max_two min_two max_three min_three max_four min_four
def spec_l13Word.l0 : Nat → ByteArray → Int → Option (Bool)
  | 0, _, _ => none
  | k + 1, x0, x3 => if x3 < (x0.size : Int) then (if 0 ≤ x3 then ((spec_l1Plain.f (bt x0 x3)).bind fun t101 => (if t101 = true then (if (bt x0 x3) = 32 then (some false) else (spec_l13Word.l0 k x0 (wrap64 (x3 + 1)))) else (some false))) else (none)) else ((spec_l1In.f (x0.size : Int) 1 80).bind fun t102 => (some t102))
def spec_l13Word.f (k : Nat) (a0 : ByteArray) : Option (Bool) := spec_l13Word.l0 k a0 0
set_option maxHeartbeats 8000000 in
set_option maxRecDepth 100000 in
theorem spec_l13Word.calls (k : Nat) (a0 : ByteArray) (r : Bool) (w : World) (h : spec_l13Word.f k a0 = some r) :
    Calls Try.prog 43 #[.string a0] w fun e w' => e = .returned (.bool r) ∧ Drawn0 w w' := by
  have H : (spec_l13Word.l0 k a0 0) = some r := h
  clear h
  have H' := mz H
  clear H
  go_enter Try.func43, Try.ntmps43
  go_wp2
  go_loopg [3] k (fun kq v3 w' => ∃ (x3_1 : Int), v3 = .int .i64 x3_1 ∧ Aside0 (spec_l13Word.l0 kq a0 x3_1 = some r) ∧ Aside0 (kq ≤ k) ∧ Drawn0 w w')
  case atStart => exact ⟨(0), (by first | rfl | (simp; done) | (simp [*]; done)), H', ⟨Nat.le_refl _⟩, by repeat (first | exact Drawn0.refl _ | apply Drawn0.step)⟩
  case round =>
    clear H'
    obtain ⟨x3_1, rfl, HA, HK1, ⟨m1, rfl⟩⟩ := hrel
    cases gk with
    | zero => exact absurd HA.out (by simp [spec_l13Word.l0])
    | succ k1 =>
      have H := HA.out
      clear HA
      simp only [spec_l13Word.l0] at H
      by_cases c2 : x3_1 < (a0.size : Int)
      · rw [if_pos c2] at H
        have c2b0 : decide (x3_1 < (a0.size : Int)) = true := decide_eq_true c2
        clear c2
        by_cases c3 : 0 ≤ x3_1
        · rw [if_pos c3] at H
          have c3b0 : decide (0 ≤ x3_1) = true := decide_eq_true c3
          clear c3
          replace H := be0_ H
          obtain ⟨t101, A50, H⟩ := H
          replace H : (if t101 = true then (if (bt a0 x3_1) = 32 then (some false) else (spec_l13Word.l0 k1 a0 (wrap64 (x3_1 + 1)))) else (some false)) = some r := H
          have A5 := mz A50
          clear A50
          by_cases c6 : t101 = true
          · subst c6
            have H1 : (if (bt a0 x3_1) = 32 then (some false) else (spec_l13Word.l0 k1 a0 (wrap64 (x3_1 + 1)))) = some r := by rw [if_pos rfl] at H; exact H
            clear H
            have H := H1
            clear H1
            by_cases c8 : (bt a0 x3_1) = 32
            · rw [if_pos c8] at H
              have c8b0 : ((bt a0 x3_1) == 32) = true := beq_iff_eq.mpr c8
              have c8b1 : ((bt a0 x3_1) != 32) = false := bne_eq_false_iff_eq.mpr c8
              clear c8
              obtain rfl := Option.some.inj H
              have p4 : 0 ≤ (x3_1 : Int) := of_decide_eq_true (by first | (with_reducible assumption) | assumption)
              have q4 : x3_1 < (a0.size : Int) := of_decide_eq_true (by first | (with_reducible assumption) | assumption)
              have hx4 := bt_at a0 x3_1
              replace p4 := eq_true p4
              replace q4 := eq_true q4
              go_wp2_with (first | ((with_reducible refine gate_callee (f := 59) rfl ?_); refine goesL_ (some 13) rfl rfl Try.func59 (by kernel_rfl) rfl #[.int .u8 (bt a0 x3_1)] rfl (by (try simp only [List.map_toArray, List.map_cons, List.map_nil]); first | done | rfl | (simp only [List.length_drop, List.length_take]; rfl)) ?_; (with_reducible refine (spec_l1Plain.calls (bt a0 x3_1) true _ A5.out).mono ?_); rintro e w' ⟨rfl, ⟨nd, rfl⟩⟩; refine ⟨_, rfl, ?_⟩; have p7 : 0 ≤ (x3_1 : Int) := of_decide_eq_true (by first | (with_reducible assumption) | assumption); have q7 : x3_1 < (a0.size : Int) := of_decide_eq_true (by first | (with_reducible assumption) | assumption); have hx7 := bt_at a0 x3_1; replace p7 := eq_true p7; replace q7 := eq_true q7))
              go_ret
              exact ⟨by first | rfl | (simp; done) | (simp [*]; done), by repeat (first | exact Drawn0.refl _ | apply Drawn0.step)⟩
            · rw [if_neg c8] at H
              have c8b0 : ((bt a0 x3_1) == 32) = false := beq_eq_false_iff_ne.mpr c8
              have c8b1 : ((bt a0 x3_1) != 32) = true := bne_iff_ne.mpr c8
              have H' := mz H
              clear H
              have p4 : 0 ≤ (x3_1 : Int) := of_decide_eq_true (by first | (with_reducible assumption) | assumption)
              have q4 : x3_1 < (a0.size : Int) := of_decide_eq_true (by first | (with_reducible assumption) | assumption)
              have hx4 := bt_at a0 x3_1
              replace p4 := eq_true p4
              replace q4 := eq_true q4
              go_wp2_with (first | ((with_reducible refine gate_callee (f := 59) rfl ?_); refine goesL_ (some 13) rfl rfl Try.func59 (by kernel_rfl) rfl #[.int .u8 (bt a0 x3_1)] rfl (by (try simp only [List.map_toArray, List.map_cons, List.map_nil]); first | done | rfl | (simp only [List.length_drop, List.length_take]; rfl)) ?_; (with_reducible refine (spec_l1Plain.calls (bt a0 x3_1) true _ A5.out).mono ?_); rintro e w' ⟨rfl, ⟨nd, rfl⟩⟩; refine ⟨_, rfl, ?_⟩; have p7 : 0 ≤ (x3_1 : Int) := of_decide_eq_true (by first | (with_reducible assumption) | assumption); have q7 : x3_1 < (a0.size : Int) := of_decide_eq_true (by first | (with_reducible assumption) | assumption); have hx7 := bt_at a0 x3_1; replace p7 := eq_true p7; replace q7 := eq_true q7))
              go_roundg k1
              case measure => have := HK1.out; omega
              case rel => exact ⟨(wrap64 (x3_1 + 1)), (by first | rfl | (simp; done) | (simp [*]; done)), H', ⟨by have := HK1.out; omega⟩, by repeat (first | exact Drawn0.refl _ | apply Drawn0.step)⟩
          · replace c6 := Bool.eq_false_iff.mpr c6
            subst c6
            have H1 : (some false) = some r := by rw [if_neg (show ¬ (false = true) by decide)] at H; exact H
            clear H
            have H := H1
            clear H1
            obtain rfl := Option.some.inj H
            have p4 : 0 ≤ (x3_1 : Int) := of_decide_eq_true (by first | (with_reducible assumption) | assumption)
            have q4 : x3_1 < (a0.size : Int) := of_decide_eq_true (by first | (with_reducible assumption) | assumption)
            have hx4 := bt_at a0 x3_1
            replace p4 := eq_true p4
            replace q4 := eq_true q4
            go_wp2_with (first | ((with_reducible refine gate_callee (f := 59) rfl ?_); refine goesL_ (some 13) rfl rfl Try.func59 (by kernel_rfl) rfl #[.int .u8 (bt a0 x3_1)] rfl (by (try simp only [List.map_toArray, List.map_cons, List.map_nil]); first | done | rfl | (simp only [List.length_drop, List.length_take]; rfl)) ?_; (with_reducible refine (spec_l1Plain.calls (bt a0 x3_1) false _ A5.out).mono ?_); rintro e w' ⟨rfl, ⟨nd, rfl⟩⟩; refine ⟨_, rfl, ?_⟩))
            go_ret
            exact ⟨by first | rfl | (simp; done) | (simp [*]; done), by repeat (first | exact Drawn0.refl _ | apply Drawn0.step)⟩
        · rw [if_neg c3] at H
          exact absurd H (by simp)
      · rw [if_neg c2] at H
        have c2b0 : decide (x3_1 < (a0.size : Int)) = false := decide_eq_false c2
        clear c2
        replace H := be0_ H
        obtain ⟨t102, A90, H⟩ := H
        replace H : (some t102) = some r := H
        have A9 := mz A90
        clear A90
        obtain rfl := Option.some.inj H
        go_wp2_with (first | ((with_reducible refine gate_callee (f := 34) rfl ?_); refine goesL_ (some 23) rfl rfl Try.func34 (by kernel_rfl) rfl #[.int .i64 (a0.size : Int), .int .i64 1, .int .i64 80] rfl (by (try simp only [List.map_toArray, List.map_cons, List.map_nil]); first | done | rfl | (simp only [List.length_drop, List.length_take]; rfl)) ?_; (with_reducible refine (spec_l1In.calls (a0.size : Int) 1 80 t102 _ A9.out).mono ?_); rintro e w' ⟨rfl, ⟨nd, rfl⟩⟩; refine ⟨_, rfl, ?_⟩))
        go_ret
        exact ⟨by first | rfl | (simp; done) | (simp [*]; done), by repeat (first | exact Drawn0.refl _ | apply Drawn0.step)⟩
end
def plainB (c : Int) : Bool := (decide (97 ≤ c) && decide (c ≤ 122)) || (decide (48 ≤ c) && decide (c ≤ 57)) || decide (c = 32) || decide (c = 46) || decide (c = 44)
theorem impl_isPlain_val (c : Int) : impl_isPlain.f c = some (plainB c) := by
  unfold impl_isPlain.f plainB
  repeat' split
  all_goals simp only [Option.some.injEq]
  all_goals (first | (simp; omega) | (rw [Bool.eq_iff_iff]; simp; omega) | (rw [eq_comm]; simp; omega))
theorem spec_l1Plain_val (c : Int) : spec_l1Plain.f c = some (plainB c) := by
  unfold spec_l1Plain.f plainB
  repeat' split
  all_goals simp only [Option.some.injEq]
  all_goals (first | (simp; omega) | (rw [Bool.eq_iff_iff]; simp; omega) | (rw [eq_comm]; simp; omega))
def solidFrom (s : ByteArray) (i : Nat) : Bool := (List.range (s.size - i)).all fun j => plainB (bt s ((i + j : Nat) : Int)) && decide (bt s ((i + j : Nat) : Int) ≠ 32)
theorem solidFrom_end (s : ByteArray) (i : Nat) (h : s.size ≤ i) : solidFrom s i = true := by
  unfold solidFrom; rw [Nat.sub_eq_zero_of_le h]; rfl
theorem solidFrom_step (s : ByteArray) (i : Nat) (h : i < s.size) : solidFrom s i = (plainB (bt s (i : Int)) && decide (bt s (i : Int) ≠ 32) && solidFrom s (i + 1)) := by
  unfold solidFrom
  obtain ⟨d, hd⟩ : ∃ d, s.size - i = d + 1 := ⟨s.size - i - 1, by omega⟩
  rw [hd, show s.size - (i + 1) = d by omega, List.range_succ_eq_map]
  simp only [List.all_cons, List.all_map, Nat.add_zero]
  congr 1
  congr 1
  funext j
  simp only [Function.comp, Nat.succ_eq_add_one]
  rw [show i + (j + 1) = i + 1 + j by omega]
def isWordB (s : ByteArray) : Bool := solidFrom s 0 && decide (1 ≤ s.size) && decide (s.size ≤ 80)

theorem isWordText_loop (s : ByteArray) (hs : s.size ≤ 9223372036854775807) (d : Nat) : ∀ i : Nat, i + d = s.size → Ev (fun k => impl_isWordText.l0 k s (s.size : Int) (i : Int)) (solidFrom s i && decide (1 ≤ s.size) && decide (s.size ≤ 80)) := by
  induction d with
  | zero =>
    intro i h
    refine Ev.succ ?_
    simp only [impl_isWordText.l0, if_neg (show ¬ ((i : Int) < (s.size : Int)) by omega)]
    rw [solidFrom_end s i (by omega)]
    by_cases h0 : s.toList = ([] : List UInt8)
    · simp only [if_pos h0]
      have : s.size = 0 := by
        have h := congrArg List.length h0
        rw [ByteArray.toList_eq] at h
        simpa using h
      rw [this]; exact Ev.now _
    · simp only [if_neg h0]
      have : 1 ≤ s.size := by
        rcases Nat.eq_zero_or_pos s.size with h1 | h1
        · exfalso; apply h0
          rw [ByteArray.toList_eq]
          exact List.eq_nil_of_length_eq_zero (by simpa using h1)
        · omega
      refine ev_eq (Ev.now _) ?_
      rw [decide_eq_true this, Bool.eq_iff_iff]; simp; omega
  | succ d ih =>
    intro i h
    refine Ev.succ ?_
    simp only [impl_isWordText.l0, if_pos (show ((i : Int) < (s.size : Int)) by omega), if_pos (show (0 : Int) ≤ i by omega), impl_isPlain_val, Option.bind_some, w64 (show -9223372036854775808 ≤ (i : Int) + 1 by omega) (by omega)]
    rw [solidFrom_step s i (by omega)]
    cases hp : plainB (bt s (i : Int)) with
    | false => simp only [Bool.false_eq_true, if_false]; exact Ev.now _
    | true =>
      simp only [if_true]
      by_cases h32 : bt s (i : Int) = 32
      · simp only [if_pos h32, h32]; exact Ev.now _
      · simp only [if_neg h32]
        refine ev_eq (ih (i + 1) (by omega)) ?_
        simp [h32]
theorem isWordText_ev (s : ByteArray) (hs : s.size ≤ maxLen) : Ev (fun k => impl_isWordText.f k s) (isWordB s) := isWordText_loop s (by simpa [maxLen] using hs) s.size 0 (by omega)

theorem l13Word_loop (s : ByteArray) (hs : s.size ≤ 9223372036854775807) (d : Nat) : ∀ i : Nat, i + d = s.size → Ev (fun k => spec_l13Word.l0 k s (i : Int)) (solidFrom s i && decide (1 ≤ s.size) && decide (s.size ≤ 80)) := by
  induction d with
  | zero =>
    intro i h
    refine Ev.succ ?_
    simp only [spec_l13Word.l0, if_neg (show ¬ ((i : Int) < (s.size : Int)) by omega)]
    rw [solidFrom_end s i (by omega)]
    unfold spec_l1In.f
    by_cases h0 : (s.size : Int) ≥ 1
    · simp only [if_pos h0, Option.bind_some]
      refine ev_eq (Ev.now _) ?_
      rw [decide_eq_true (show 1 ≤ s.size by omega), Bool.eq_iff_iff]; simp; omega
    · simp only [if_neg h0, Option.bind_some]
      refine ev_eq (Ev.now _) ?_
      rw [decide_eq_false (show ¬ 1 ≤ s.size by omega)]; simp
  | succ d ih =>
    intro i h
    refine Ev.succ ?_
    simp only [spec_l13Word.l0, if_pos (show ((i : Int) < (s.size : Int)) by omega), if_pos (show (0 : Int) ≤ i by omega), spec_l1Plain_val, Option.bind_some, w64 (show -9223372036854775808 ≤ (i : Int) + 1 by omega) (by omega)]
    rw [solidFrom_step s i (by omega)]
    cases hp : plainB (bt s (i : Int)) with
    | false => simp only [Bool.false_eq_true, if_false]; exact Ev.now _
    | true =>
      simp only [if_true]
      by_cases h32 : bt s (i : Int) = 32
      · simp only [if_pos h32, h32]; exact Ev.now _
      · simp only [if_neg h32]
        refine ev_eq (ih (i + 1) (by omega)) ?_
        simp [h32]
theorem l13Word_ev (s : ByteArray) (hs : s.size ≤ maxLen) : Ev (fun k => spec_l13Word.f k s) (isWordB s) := l13Word_loop s (by simpa [maxLen] using hs) s.size 0 (by omega)
section
attribute [local go_sem] max2_int min2_int max_two min_two max_three min_three max_four min_four
def impl_isWidth.f (a0 : Int) : Option (Bool) := if a0 ≥ 1 then (some (decide (a0 ≤ 80))) else (some false)
set_option maxHeartbeats 8000000 in
set_option maxRecDepth 100000 in
theorem impl_isWidth.calls (a0 : Int) (r : Bool) (w : World) (h : impl_isWidth.f a0 = some r) :
    Calls Try.prog 26 #[.int .i64 a0] w fun e w' => e = .returned (.bool r) ∧ Drawn0 w w' := by
  have H : (if a0 ≥ 1 then (some (decide (a0 ≤ 80))) else (some false)) = some r := h
  clear h
  by_cases c2 : a0 ≥ 1
  · rw [if_pos c2] at H
    have c2b0 : decide (1 ≤ a0) = true := decide_eq_true c2
    clear c2
    obtain rfl := Option.some.inj H
    go_enter Try.func26, Try.ntmps26
    go_wp2
    go_ret
    exact ⟨by first | rfl | (simp; done) | (simp [*]; done), by repeat (first | exact Drawn0.refl _ | apply Drawn0.step)⟩
  · rw [if_neg c2] at H
    have c2b0 : decide (1 ≤ a0) = false := decide_eq_false c2
    clear c2
    obtain rfl := Option.some.inj H
    go_enter Try.func26, Try.ntmps26
    go_wp2
    go_ret
    exact ⟨by first | rfl | (simp; done) | (simp [*]; done), by repeat (first | exact Drawn0.refl _ | apply Drawn0.step)⟩
end
def PredStr (g : Nat) (lb : Array Value) (p : ByteArray → Bool) (l : List ByteArray) (w : World) : Prop :=
  ∀ (W : World) (x : ByteArray), x ∈ l → Below w.heap.size w W → Calls Try.prog g (#[.string x] ++ lb) W fun e w' => e = .returned (.bool (p x)) ∧ Below w.heap.size w w'

def FoundStr (p : ByteArray → Bool) (l : List ByteArray) (e : Ending) : Prop := ∃ z : Int, e = .returned (.int .i64 z) ∧ (0 ≤ z ↔ l.any p = true)
theorem FoundStr.mk {p : ByteArray → Bool} {l : List ByteArray} {e : Ending} (z : Int) (h : e = .returned (.int .i64 z)) (h2 : 0 ≤ z ↔ l.any p = true) : FoundStr p l e := ⟨z, h, h2⟩

set_option maxHeartbeats 2000000 in
theorem indexFunc_str (g : Nat) (lb : Array Value) (p : ByteArray → Bool) (A : Option Addr) (c : Nat) (l : List ByteArray) (w : World) (hr : Kd.C Kd.string w A l.length l) (hp : PredStr g lb p l w)
    (eg : ∀ args w, (callFunc g args).run Try.prog w = .ok (.enter g args) w) :
    Calls Try.prog 52 #[.slice A l.length c, .func (.func g) #[] lb] w fun e w' => FoundStr p l e ∧ Below w.heap.size w w' := by
  have hl : l.length ≤ 9223372036854775807 := hr.2.1
  have HR := mz hr
  have HP := mz hp
  clear hr hp
  go_enter Try.func52, Try.ntmps52
  go_wp2
  go_loopg [5, 8] l.length (fun gg _ s8 wr => ∃ kk : Nat, kk ≤ l.length ∧ l.length - kk ≤ gg ∧ s8 = .int .i64 kk ∧ Aside0 (Below w.heap.size w wr) ∧ Aside0 ((l.take kk).any p = false))
  case atStart => exact ⟨0, Nat.zero_le _, by omega, rfl, ⟨Below.refl _ w⟩, ⟨by simp⟩⟩
  case round =>
    obtain ⟨kk, hkk, hg, rfl, BW, AN⟩ := hrel
    by_cases hlt : kk < l.length
    · have hltz : (kk : Int) < (l.length : Int) := by omega
      obtain ⟨ad, e1, hx⟩ := Kd.at_string (Kd.C_below HR.out BW.out) (kk : Int) (by omega) hltz
      cases e1
      rw [rdOf_get _ l kk hlt, Int.toNat_natCast] at hx
      have hcall := HP.out wr l[kk] (List.getElem_mem hlt) BW.out
      have HE : Aside0 (l.take (kk + 1) = l.take kk ++ [l[kk]]) := ⟨List.take_succ_eq_append_getElem hlt⟩
      have HA : Aside0 ((l.any p = true) ↔ (p l[kk] = true ∨ (l.drop (kk + 1)).any p = true)) := ⟨by
        have h := List.take_append_drop (kk + 1) l
        have h2 : l.any p = ((l.take (kk + 1)).any p || (l.drop (kk + 1)).any p) := by rw [← List.any_append, h]
        rw [h2, HE.out, List.any_append, AN.out]
        simp⟩
      generalize l[kk] = y at hx hcall HE HA
      cases hq : p y with
      | true =>
        have HQ := mz hq
        rw [hq] at hcall
        clear hq
        go_wp2_with fail
        refine hcall.mono ?_
        rintro e w' ⟨rfl, hb'⟩
        go_wp2_with fail
        go_ret
        exact ⟨FoundStr.mk _ rfl (by rw [HA.out]; constructor <;> intro _ <;> first | exact Or.inl HQ.out | omega), hb'⟩
      | false =>
        have HQ := mz hq
        rw [hq] at hcall
        clear hq
        go_wp2_with fail
        refine hcall.mono ?_
        rintro e w' ⟨rfl, hb'⟩
        go_wp2_with fail
        go_roundg (l.length - (kk + 1))
        case measure => omega
        case rel =>
          refine ⟨kk + 1, by omega, by omega, by go_num, ⟨hb'⟩, ⟨?_⟩⟩
          rw [HE.out, List.any_append, AN.out]
          simp [HQ.out]
    · have hltz : ¬ (kk : Int) < (l.length : Int) := by omega
      have : kk = l.length := by omega
      subst this
      go_wp2
      go_ret
      refine ⟨FoundStr.mk (-1) rfl ?_, BW.out⟩
      have h3 := AN.out
      rw [List.take_length] at h3
      exact ⟨fun h => absurd h (by decide), fun h => by rw [h3] at h; cases h⟩

set_option maxHeartbeats 2000000 in
theorem containsFunc_str (g : Nat) (lb : Array Value) (p : ByteArray → Bool) (A : Option Addr) (c : Nat) (l : List ByteArray) (w : World) (hr : Kd.C Kd.string w A l.length l) (hp : PredStr g lb p l w)
    (eg : ∀ args w, (callFunc g args).run Try.prog w = .ok (.enter g args) w) :
    Calls Try.prog 32 #[.slice A l.length c, .func (.func g) #[] lb] w fun e w' => e = .returned (.bool (l.any p)) ∧ Below w.heap.size w w' := by
  have HR := mz hr
  have HP := mz hp
  clear hr hp
  have HB : ∀ z : Int, (0 ≤ z ↔ l.any p = true) → decide (0 ≤ z) = l.any p := fun z h => by rw [Bool.eq_iff_iff]; simpa using h
  have HB' := mz HB
  clear HB
  go_enter Try.func32, Try.ntmps32
  go_wp2_with (go_at_call 52; refine (indexFunc_str g lb p A c l _ HR.out HP.out eg).mono ?_; rintro e w' ⟨⟨z, rfl, hz⟩, hb'⟩; have HZ := mz hz; clear hz)
  go_ret
  exact ⟨by rw [← HB'.out z HZ.out]; rfl, hb'⟩

def impl_areWords.f (l0 : List ByteArray) : Option (Bool) := if l0.all (fun s => decide (s.size ≤ maxLen)) = true then some (decide (l0.length ≤ 60) && l0.all isWordB) else none
theorem areWords_pred (l : List ByteArray) (hl : ∀ s ∈ l, s.size ≤ maxLen) (w : World) : PredStr 53 #[] (fun s => !isWordB s) l w := by
  intro W x hx hb
  obtain ⟨k, hk⟩ := Ev.rounds (isWordText_ev x (hl x hx))
  have HB := mz hb
  have HK := mz hk
  clear hb hk
  cases hq : isWordB x with
  | true =>
    have HQ := mz hq
    rw [hq] at HK
    clear hq
    go_enter Try.func53, Try.ntmps53
    go_wp2_with (go_at_call 54; refine (impl_isWordText.calls k x true _ HK.out).mono ?_; rintro e w' ⟨rfl, hd⟩; have HD := mz hd; clear hd)
    go_ret
    exact ⟨by rw [HQ.out]; rfl, below_then HB.out HB.out.size HD.out.below⟩
  | false =>
    have HQ := mz hq
    rw [hq] at HK
    clear hq
    go_enter Try.func53, Try.ntmps53
    go_wp2_with (go_at_call 54; refine (impl_isWordText.calls k x false _ HK.out).mono ?_; rintro e w' ⟨rfl, hd⟩; have HD := mz hd; clear hd)
    go_ret
    exact ⟨by rw [HQ.out]; rfl, below_then HB.out HB.out.size HD.out.below⟩
theorem impl_areWords.calls (A0 : Option Addr) (c0 : Nat) (l0 : List ByteArray) (r : Bool) (w : World) (hr0 : Kd.C Kd.string w A0 l0.length l0) (_hc0 : l0.length ≤ c0) (h : impl_areWords.f l0 = some r) :
    Calls Try.prog 35 #[.slice A0 l0.length c0] w fun e w' => e = .returned (.bool r) ∧ Below w.heap.size w w' := by
  unfold impl_areWords.f at h
  by_cases hs : l0.all (fun s => decide (s.size ≤ maxLen)) = true
  · rw [if_pos hs] at h
    have hs' : ∀ s ∈ l0, s.size ≤ maxLen := by simpa using hs
    have HP := mz (areWords_pred l0 hs')
    have HR := mz hr0
    have HH := mz h
    have hl : l0.length ≤ 9223372036854775807 := hr0.2.1
    clear hs hs' h hr0
    by_cases h60 : l0.length ≤ 60
    · have d1 : decide ((l0.length : Int) ≤ 60) = true := decide_eq_true (by omega)
      have d2 : decide (l0.length ≤ 60) = true := decide_eq_true h60
      go_enter Try.func35, Try.ntmps35
      go_wp2_with (go_at_call 32; refine (containsFunc_str 53 #[] _ A0 c0 l0 _ HR.out (HP.out _) (Go.Proofs.enters_of Try.func53 (by kernel_rfl) rfl)).mono ?_; rintro e w' ⟨rfl, hb⟩)
      go_ret
      refine ⟨?_, hb⟩
      have := Option.some.inj HH.out
      rw [← this, decide_eq_true h60, List.any_eq_not_all_not]
      simp
    · have d1 : decide ((l0.length : Int) ≤ 60) = false := decide_eq_false (by omega)
      have d2 : decide (l0.length ≤ 60) = false := decide_eq_false h60
      go_enter Try.func35, Try.ntmps35
      go_wp2
      go_ret
      refine ⟨?_, Below.refl _ _⟩
      have := Option.some.inj HH.out
      rw [← this, decide_eq_false h60]
      simp
  · rw [if_neg hs] at h
    exact absurd h (by simp)

def impl_allFit.f (l0 : List ByteArray) (a1 : Int) : Option (Bool) := if l0.all (fun s => decide (s.size ≤ maxLen)) = true then some (decide (l0.length ≤ 60) && l0.all isWordB && (decide (1 ≤ a1) && decide (a1 ≤ 80)) && l0.all (fun s => decide ((s.size : Int) ≤ a1))) else none
theorem allFit_pred (l : List ByteArray) (hl : ∀ s ∈ l, s.size ≤ maxLen) (a : Int) (B : Nat) (w : World) (hB : B < w.heap.size) (hc : w.cell? ⟨B, 0, none⟩ = some (.int .i64 a)) : PredStr 44 #[.pointer (some ⟨B, 0, none⟩)] (fun s => decide (a < (s.size : Int))) l w := by
  intro W x hx hb
  have hs := hl x hx
  simp only [maxLen] at hs
  have hc' : W.cell? ⟨B, 0, none⟩ = some (.int .i64 a) := (hb.cell (p := ⟨B, 0, none⟩) hB).trans hc
  have HB := mz hb
  clear hb hc
  go_enter Try.func44, Try.ntmps44
  go_wp2
  go_ret
  exact ⟨rfl, HB.out⟩
theorem impl_allFit.calls (A0 : Option Addr) (c0 : Nat) (l0 : List ByteArray) (a1 : Int) (r : Bool) (w : World) (hr0 : Kd.C Kd.string w A0 l0.length l0) (hc0 : l0.length ≤ c0) (h : impl_allFit.f l0 a1 = some r) :
    Calls Try.prog 22 #[.slice A0 l0.length c0, .int .i64 a1] w fun e w' => e = .returned (.bool r) ∧ Below w.heap.size w w' := by
  unfold impl_allFit.f at h
  by_cases hs : l0.all (fun s => decide (s.size ≤ maxLen)) = true
  · rw [if_pos hs] at h
    have hs' : ∀ s ∈ l0, s.size ≤ maxLen := by simpa using hs
    have hA : impl_areWords.f l0 = some (decide (l0.length ≤ 60) && l0.all isWordB) := by unfold impl_areWords.f; rw [if_pos hs]
    have hW : impl_isWidth.f a1 = some (decide (1 ≤ a1) && decide (a1 ≤ 80)) := by
      unfold impl_isWidth.f
      by_cases h1 : a1 ≥ 1
      · rw [if_pos h1, decide_eq_true (show 1 ≤ a1 from h1)]; simp
      · rw [if_neg h1, decide_eq_false (show ¬ 1 ≤ a1 from h1)]; simp
    have HP := mz (fun w B hB hc => allFit_pred l0 hs' a1 B w hB hc)
    have HR := mz hr0
    have HR1 := mz (fun o : Obj => Kd.C_below hr0 ((Below.refl w.heap.size w).alloc (Nat.le_refl _) o))
    have HC := mz hc0
    obtain ⟨b1, hb1⟩ : ∃ b, (decide (l0.length ≤ 60) && l0.all isWordB) = b := ⟨_, rfl⟩
    obtain ⟨b2, hb2⟩ : ∃ b, (decide (1 ≤ a1) && decide (a1 ≤ 80)) = b := ⟨_, rfl⟩
    rw [hb1] at hA h
    rw [hb2] at hW h
    have HA := mz hA
    have HW := mz hW
    have HH := mz h
    clear hs hs' h hr0 hA hW hb1 hb2 hc0
    cases b1 with
    | false =>
      go_enter Try.func22, Try.ntmps22
      go_wp2_with (go_at_call 35; refine (impl_areWords.calls A0 c0 l0 false _ (HR1.out _) HC.out HA.out).mono ?_; rintro e w' ⟨rfl, hb⟩)
      go_ret
      refine ⟨?_, below_then ((Below.refl w.heap.size w).alloc (Nat.le_refl _) _) (by simp) hb⟩
      have := Option.some.inj HH.out
      rw [← this]; simp
    | true =>
      cases b2 with
      | false =>
        go_enter Try.func22, Try.ntmps22
        go_wp2_with (first | (go_at_call 35; refine (impl_areWords.calls A0 c0 l0 true _ (HR1.out _) HC.out HA.out).mono ?_; rintro e w1 ⟨rfl, hb⟩; have hcw : w1.cell? ⟨w.heap.size, 0, none⟩ = some (.int .i64 a1) := (hb.cell (p := ⟨w.heap.size, 0, none⟩) (by simp)).trans (by simp); have HB := mz hb; clear hb) | (go_at_call 26; refine (impl_isWidth.calls a1 false _ HW.out).mono ?_; rintro e w2 ⟨rfl, hd⟩; have HD := mz hd; clear hd))
        go_ret
        refine ⟨?_, below_then (below_then ((Below.refl w.heap.size w).alloc (Nat.le_refl _) _) (by simp) HB.out) (by have := HB.out.size; simp at this; omega) HD.out.below⟩
        have := Option.some.inj HH.out
        rw [← this]; simp
      | true =>
        go_enter Try.func22, Try.ntmps22
        go_wp2_with (first | (go_at_call 35; refine (impl_areWords.calls A0 c0 l0 true _ (HR1.out _) HC.out HA.out).mono ?_; rintro e w1 ⟨rfl, hb⟩; have hcw : w1.cell? ⟨w.heap.size, 0, none⟩ = some (.int .i64 a1) := (hb.cell (p := ⟨w.heap.size, 0, none⟩) (by simp)).trans (by simp); have hz1 : w.heap.size + 1 ≤ w1.heap.size := Nat.le_trans (by simp) hb.size; have HB := mz (below_then ((Below.refl w.heap.size w).alloc (Nat.le_refl _) _) (by simp) hb); clear hb) | (go_at_call 26; refine (impl_isWidth.calls a1 true _ HW.out).mono ?_; rintro e w2 ⟨rfl, hd⟩; obtain ⟨nd, rfl⟩ := hd.out; clear hd) | (go_at_call 32; refine (containsFunc_str 44 _ _ A0 c0 l0 _ (Kd.C_below HR.out (pw_below_drewN HB.out _)) (HP.out _ w.heap.size (by simp; omega) (by simpa using hcw)) (Go.Proofs.enters_of Try.func44 (by kernel_rfl) rfl)).mono ?_; rintro e w3 ⟨rfl, hb3⟩))
        go_ret
        refine ⟨?_, below_then (pw_below_drewN HB.out _) (by simp; omega) hb3⟩
        have := Option.some.inj HH.out
        rw [← this, List.any_eq_not_all_not]
        have hf : (fun x : ByteArray => !decide (a1 < (x.size : Int))) = fun s => decide ((s.size : Int) ≤ a1) := funext fun x => by rw [Bool.eq_iff_iff]; simp
        simp [hf]
  · rw [if_neg hs] at h
    exact absurd h (by simp)
section
attribute [local go_sem] max2_int min2_int max_two min_two max_three min_three max_four min_four
def spec_l13Said.l0 : Nat → List ByteArray → Int → List ByteArray → Int → Int → Option (Bool)
  | 0, _, _, _, _, _ => none
  | k + 1, x0, x1, x7, x8, x9 => if x9 < x8 then (if 0 ≤ x9 then (if x9 < (x7.length : Int) then ((spec_l13Word.f k (rdOf ByteArray.empty x7 x9)).bind fun t102 => (if t102 = true then (if ((rdOf ByteArray.empty x7 x9).size : Int) > x1 then (some false) else (spec_l13Said.l0 k x0 x1 x7 x8 (wrap64 (x9 + 1)))) else (some false))) else (none)) else (none)) else (if (x0.length : Int) ≤ 60 then ((spec_l1In.f x1 1 80).bind fun t103 => (some t103)) else (some false))
def spec_l13Said.f (k : Nat) (l0 : List ByteArray) (a1 : Int) : Option (Bool) := spec_l13Said.l0 k l0 a1 l0 (l0.length : Int) 0
set_option maxHeartbeats 8000000 in
set_option maxRecDepth 100000 in
theorem spec_l13Said.calls (k : Nat) (A0 : Option Addr) (c0 : Nat) (l0 : List ByteArray) (a1 : Int) (r : Bool) (w : World) (hr0 : Kd.C Kd.string w A0 l0.length l0) (hc0 : l0.length ≤ c0) (h : spec_l13Said.f k l0 a1 = some r) :
    Calls Try.prog 24 #[.slice A0 l0.length c0, .int .i64 a1] w fun e w' => e = .returned (.bool r) ∧ Drawn0 w w' := by
  have HR0 := mz hr0
  have HC0 := mz hc0
  clear hr0 hc0
  have H : (spec_l13Said.l0 k l0 a1 l0 (l0.length : Int) 0) = some r := h
  clear h
  have H' := mz H
  clear H
  go_enter Try.func24, Try.ntmps24
  go_wp2
  go_loopg [9] k (fun kq v9 w' => ∃ (x9_1 : Int), v9 = .int .i64 x9_1 ∧ Aside0 (spec_l13Said.l0 kq l0 a1 l0 (l0.length : Int) x9_1 = some r) ∧ Aside0 (kq ≤ k) ∧ Drawn0 w w')
  case atStart => exact ⟨(0), (by first | rfl | (simp; done) | (simp [*]; done)), H', ⟨Nat.le_refl _⟩, by repeat (first | exact Drawn0.refl _ | apply Drawn0.step)⟩
  case round =>
    clear H'
    try clear c2
    try clear p2
    obtain ⟨x9_1, rfl, HA, HK1, ⟨m1, rfl⟩⟩ := hrel
    cases gk with
    | zero => exact absurd HA.out (by simp [spec_l13Said.l0])
    | succ k1 =>
      have H := HA.out
      clear HA
      simp only [spec_l13Said.l0] at H
      by_cases c3 : x9_1 < (l0.length : Int)
      · rw [if_pos c3] at H
        have c3b0 : decide (x9_1 < (l0.length : Int)) = true := decide_eq_true c3
        clear c3
        by_cases c4 : 0 ≤ x9_1
        · rw [if_pos c4] at H
          have c4b0 : decide (0 ≤ x9_1) = true := decide_eq_true c4
          clear c4
          by_cases c5 : x9_1 < (l0.length : Int)
          · rw [if_pos c5] at H
            have c5b0 : decide (x9_1 < (l0.length : Int)) = true := decide_eq_true c5
            clear c5
            replace H := be0_ H
            obtain ⟨t102, A60, H⟩ := H
            replace H : (if t102 = true then (if ((rdOf ByteArray.empty l0 x9_1).size : Int) > a1 then (some false) else (spec_l13Said.l0 k1 l0 a1 l0 (l0.length : Int) (wrap64 (x9_1 + 1)))) else (some false)) = some r := H
            have A6 := mz A60
            clear A60
            by_cases c7 : t102 = true
            · subst c7
              have H1 : (if ((rdOf ByteArray.empty l0 x9_1).size : Int) > a1 then (some false) else (spec_l13Said.l0 k1 l0 a1 l0 (l0.length : Int) (wrap64 (x9_1 + 1)))) = some r := by rw [if_pos rfl] at H; exact H
              clear H
              have H := H1
              clear H1
              by_cases c8 : ((rdOf ByteArray.empty l0 x9_1).size : Int) > a1
              · rw [if_pos c8] at H
                have c8b0 : decide (a1 < ((rdOf ByteArray.empty l0 x9_1).size : Int)) = true := decide_eq_true c8
                clear c8
                obtain rfl := Option.some.inj H
                have p101 : 0 ≤ (x9_1 : Int) := of_decide_eq_true (by first | (with_reducible assumption) | assumption)
                have q101 : x9_1 < (l0.length : Int) := of_decide_eq_true (by first | (with_reducible assumption) | assumption)
                obtain ⟨ad101, e101, hx101_0⟩ := Kd.at_string HR0.out x9_1 p101 q101
                cases e101
                replace p101 := eq_true p101
                replace q101 := eq_true q101
                go_wp2_with (first | ((with_reducible refine gate_callee (f := 43) rfl ?_); refine goesL_ (some 14) rfl rfl Try.func43 (by kernel_rfl) rfl #[.string (rdOf ByteArray.empty l0 x9_1)] rfl (by (try simp only [List.map_toArray, List.map_cons, List.map_nil]); first | done | rfl | (simp only [List.length_drop, List.length_take]; rfl)) ?_; (with_reducible refine (spec_l13Word.calls k1 (rdOf ByteArray.empty l0 x9_1) true _ A6.out).mono ?_); rintro e w' ⟨rfl, ⟨nd, rfl⟩⟩; refine ⟨_, rfl, ?_⟩))
                go_ret
                exact ⟨by first | rfl | (simp; done) | (simp [*]; done), by repeat (first | exact Drawn0.refl _ | apply Drawn0.step)⟩
              · rw [if_neg c8] at H
                have c8b0 : decide (a1 < ((rdOf ByteArray.empty l0 x9_1).size : Int)) = false := decide_eq_false c8
                clear c8
                have H' := mz H
                clear H
                have p101 : 0 ≤ (x9_1 : Int) := of_decide_eq_true (by first | (with_reducible assumption) | assumption)
                have q101 : x9_1 < (l0.length : Int) := of_decide_eq_true (by first | (with_reducible assumption) | assumption)
                obtain ⟨ad101, e101, hx101_0⟩ := Kd.at_string HR0.out x9_1 p101 q101
                cases e101
                replace p101 := eq_true p101
                replace q101 := eq_true q101
                go_wp2_with (first | ((with_reducible refine gate_callee (f := 43) rfl ?_); refine goesL_ (some 14) rfl rfl Try.func43 (by kernel_rfl) rfl #[.string (rdOf ByteArray.empty l0 x9_1)] rfl (by (try simp only [List.map_toArray, List.map_cons, List.map_nil]); first | done | rfl | (simp only [List.length_drop, List.length_take]; rfl)) ?_; (with_reducible refine (spec_l13Word.calls k1 (rdOf ByteArray.empty l0 x9_1) true _ A6.out).mono ?_); rintro e w' ⟨rfl, ⟨nd, rfl⟩⟩; refine ⟨_, rfl, ?_⟩))
                go_roundg k1
                case measure => have := HK1.out; omega
                case rel => exact ⟨(wrap64 (x9_1 + 1)), (by first | rfl | (simp; done) | (simp [*]; done)), H', ⟨by have := HK1.out; omega⟩, by repeat (first | exact Drawn0.refl _ | apply Drawn0.step)⟩
            · replace c7 := Bool.eq_false_iff.mpr c7
              subst c7
              have H1 : (some false) = some r := by rw [if_neg (show ¬ (false = true) by decide)] at H; exact H
              clear H
              have H := H1
              clear H1
              obtain rfl := Option.some.inj H
              have p101 : 0 ≤ (x9_1 : Int) := of_decide_eq_true (by first | (with_reducible assumption) | assumption)
              have q101 : x9_1 < (l0.length : Int) := of_decide_eq_true (by first | (with_reducible assumption) | assumption)
              obtain ⟨ad101, e101, hx101_0⟩ := Kd.at_string HR0.out x9_1 p101 q101
              cases e101
              replace p101 := eq_true p101
              replace q101 := eq_true q101
              go_wp2_with (first | ((with_reducible refine gate_callee (f := 43) rfl ?_); refine goesL_ (some 14) rfl rfl Try.func43 (by kernel_rfl) rfl #[.string (rdOf ByteArray.empty l0 x9_1)] rfl (by (try simp only [List.map_toArray, List.map_cons, List.map_nil]); first | done | rfl | (simp only [List.length_drop, List.length_take]; rfl)) ?_; (with_reducible refine (spec_l13Word.calls k1 (rdOf ByteArray.empty l0 x9_1) false _ A6.out).mono ?_); rintro e w' ⟨rfl, ⟨nd, rfl⟩⟩; refine ⟨_, rfl, ?_⟩))
              go_ret
              exact ⟨by first | rfl | (simp; done) | (simp [*]; done), by repeat (first | exact Drawn0.refl _ | apply Drawn0.step)⟩
          · rw [if_neg c5] at H
            exact absurd H (by simp)
        · rw [if_neg c4] at H
          exact absurd H (by simp)
      · rw [if_neg c3] at H
        have c3b0 : decide (x9_1 < (l0.length : Int)) = false := decide_eq_false c3
        clear c3
        by_cases c9 : (l0.length : Int) ≤ 60
        · rw [if_pos c9] at H
          have c9b0 : decide ((l0.length : Int) ≤ 60) = true := decide_eq_true c9
          have c9b1 : decide (l0.length ≤ 60) = true := decide_eq_true (by omega)
          clear c9
          replace H := be0_ H
          obtain ⟨t103, A100, H⟩ := H
          replace H : (some t103) = some r := H
          have A10 := mz A100
          clear A100
          obtain rfl := Option.some.inj H
          go_wp2_with (first | (go_at_call 34; (with_reducible refine (spec_l1In.calls a1 1 80 t103 _ A10.out).mono ?_); rintro e w' ⟨rfl, ⟨nd, rfl⟩⟩))
          go_ret
          exact ⟨by first | rfl | (simp; done) | (simp [*]; done), by repeat (first | exact Drawn0.refl _ | apply Drawn0.step)⟩
        · rw [if_neg c9] at H
          have c9b0 : decide ((l0.length : Int) ≤ 60) = false := decide_eq_false c9
          have c9b1 : decide (l0.length ≤ 60) = false := decide_eq_false (by omega)
          clear c9
          obtain rfl := Option.some.inj H
          go_wp2
          go_ret
          exact ⟨by first | rfl | (simp; done) | (simp [*]; done), by repeat (first | exact Drawn0.refl _ | apply Drawn0.step)⟩
end
section
attribute [local go_sem] max2_int min2_int max_two min_two max_three min_three max_four min_four
def spec_l13Join.l0 : Nat → ByteArray → List ByteArray → Int → Int → Option (ByteArray)
  | 0, _, _, _, _ => none
  | k + 1, x3, x6, x7, x8 => if x8 < x7 then (if 0 ≤ x8 then (if x8 < (x6.length : Int) then (if x8 > 0 then (if x3.size + 1 ≤ 9223372036854775807 then (if (x3 ++ (⟨#[32]⟩ : ByteArray)).size + (rdOf ByteArray.empty x6 x8).size ≤ 9223372036854775807 then (spec_l13Join.l0 k ((x3 ++ (⟨#[32]⟩ : ByteArray)) ++ (rdOf ByteArray.empty x6 x8)) x6 x7 (wrap64 (x8 + 1))) else (none)) else (none)) else (if x3.size + (rdOf ByteArray.empty x6 x8).size ≤ 9223372036854775807 then (spec_l13Join.l0 k (x3 ++ (rdOf ByteArray.empty x6 x8)) x6 x7 (wrap64 (x8 + 1))) else (none))) else (none)) else (none)) else (some x3)
def spec_l13Join.f (k : Nat) (l0 : List ByteArray) : Option (ByteArray) := spec_l13Join.l0 k (⟨#[]⟩ : ByteArray) l0 (l0.length : Int) 0
set_option maxHeartbeats 8000000 in
set_option maxRecDepth 100000 in
theorem spec_l13Join.calls (k : Nat) (A0 : Option Addr) (c0 : Nat) (l0 : List ByteArray) (r : ByteArray) (w : World) (hr0 : Kd.C Kd.string w A0 l0.length l0) (hc0 : l0.length ≤ c0) (h : spec_l13Join.f k l0 = some r) :
    Calls Try.prog 25 #[.slice A0 l0.length c0] w fun e w' => e = .returned (.string r) ∧ Drawn0 w w' := by
  have HR0 := mz hr0
  have HC0 := mz hc0
  clear hr0 hc0
  have H : (spec_l13Join.l0 k (⟨#[]⟩ : ByteArray) l0 (l0.length : Int) 0) = some r := h
  clear h
  have H' := mz H
  clear H
  go_enter Try.func25, Try.ntmps25
  go_wp2
  go_loopg [3, 8] k (fun kq v3 v8 w' => ∃ (x3_1 : ByteArray) (x8_1 : Int), v3 = .string x3_1 ∧ v8 = .int .i64 x8_1 ∧ Aside0 (spec_l13Join.l0 kq x3_1 l0 (l0.length : Int) x8_1 = some r) ∧ Aside0 (kq ≤ k) ∧ Drawn0 w w')
  case atStart => exact ⟨((⟨#[]⟩ : ByteArray)), (0), (by first | rfl | (simp; done) | (simp [*]; done)), (by first | rfl | (simp; done) | (simp [*]; done)), H', ⟨Nat.le_refl _⟩, by repeat (first | exact Drawn0.refl _ | apply Drawn0.step)⟩
  case round =>
    clear H'
    obtain ⟨x3_1, x8_1, rfl, rfl, HA, HK1, ⟨m1, rfl⟩⟩ := hrel
    cases gk with
    | zero => exact absurd HA.out (by simp [spec_l13Join.l0])
    | succ k1 =>
      have H := HA.out
      clear HA
      simp only [spec_l13Join.l0] at H
      by_cases c2 : x8_1 < (l0.length : Int)
      · rw [if_pos c2] at H
        have c2b0 : decide (x8_1 < (l0.length : Int)) = true := decide_eq_true c2
        clear c2
        by_cases c3 : 0 ≤ x8_1
        · rw [if_pos c3] at H
          have c3b0 : decide (0 ≤ x8_1) = true := decide_eq_true c3
          clear c3
          by_cases c4 : x8_1 < (l0.length : Int)
          · rw [if_pos c4] at H
            have c4b0 : decide (x8_1 < (l0.length : Int)) = true := decide_eq_true c4
            clear c4
            by_cases c5 : x8_1 > 0
            · rw [if_pos c5] at H
              have c5b0 : decide (0 < x8_1) = true := decide_eq_true c5
              clear c5
              by_cases c6 : x3_1.size + 1 ≤ 9223372036854775807
              · rw [if_pos c6] at H
                have c6b0 := eq_true c6
                have c6b1 : decide (x3_1.size + 1 ≤ 9223372036854775807) = true := decide_eq_true c6
                try have c6b2 : (9223372036854775807 < x3_1.size + 1) = False := eq_false (Nat.not_lt.2 c6)
                by_cases c7 : (x3_1 ++ (⟨#[32]⟩ : ByteArray)).size + (rdOf ByteArray.empty l0 x8_1).size ≤ 9223372036854775807
                · rw [if_pos c7] at H
                  have c7b0 := eq_true c7
                  have c7b1 : decide ((x3_1 ++ (⟨#[32]⟩ : ByteArray)).size + (rdOf ByteArray.empty l0 x8_1).size ≤ 9223372036854775807) = true := decide_eq_true c7
                  try have c7b2 : (9223372036854775807 < (x3_1 ++ (⟨#[32]⟩ : ByteArray)).size + (rdOf ByteArray.empty l0 x8_1).size) = False := eq_false (Nat.not_lt.2 c7)
                  try have c7b3 := c7b2
                  try simp only [ByteArray.size_append, (show ((⟨#[32]⟩ : ByteArray)).size = 1 from rfl)] at c7b3
                  have H' := mz H
                  clear H
                  have p101 : 0 ≤ (x8_1 : Int) := of_decide_eq_true (by first | (with_reducible assumption) | assumption)
                  have q101 : x8_1 < (l0.length : Int) := of_decide_eq_true (by first | (with_reducible assumption) | assumption)
                  obtain ⟨ad101, e101, hx101_0⟩ := Kd.at_string HR0.out x8_1 p101 q101
                  cases e101
                  replace p101 := eq_true p101
                  replace q101 := eq_true q101
                  go_wp2
                  go_roundg k1
                  case measure => have := HK1.out; omega
                  case rel => exact ⟨((x3_1 ++ (⟨#[32]⟩ : ByteArray)) ++ (rdOf ByteArray.empty l0 x8_1)), (wrap64 (x8_1 + 1)), (by first | rfl | (simp; done) | (simp [*]; done)), (by first | rfl | (simp; done) | (simp [*]; done)), H', ⟨by have := HK1.out; omega⟩, by repeat (first | exact Drawn0.refl _ | apply Drawn0.step)⟩
                · rw [if_neg c7] at H
                  exact absurd H (by simp)
              · rw [if_neg c6] at H
                exact absurd H (by simp)
            · rw [if_neg c5] at H
              have c5b0 : decide (0 < x8_1) = false := decide_eq_false c5
              clear c5
              by_cases c8 : x3_1.size + (rdOf ByteArray.empty l0 x8_1).size ≤ 9223372036854775807
              · rw [if_pos c8] at H
                have c8b0 := eq_true c8
                have c8b1 : decide (x3_1.size + (rdOf ByteArray.empty l0 x8_1).size ≤ 9223372036854775807) = true := decide_eq_true c8
                try have c8b2 : (9223372036854775807 < x3_1.size + (rdOf ByteArray.empty l0 x8_1).size) = False := eq_false (Nat.not_lt.2 c8)
                have H' := mz H
                clear H
                have p101 : 0 ≤ (x8_1 : Int) := of_decide_eq_true (by first | (with_reducible assumption) | assumption)
                have q101 : x8_1 < (l0.length : Int) := of_decide_eq_true (by first | (with_reducible assumption) | assumption)
                obtain ⟨ad101, e101, hx101_0⟩ := Kd.at_string HR0.out x8_1 p101 q101
                cases e101
                replace p101 := eq_true p101
                replace q101 := eq_true q101
                go_wp2
                go_roundg k1
                case measure => have := HK1.out; omega
                case rel => exact ⟨(x3_1 ++ (rdOf ByteArray.empty l0 x8_1)), (wrap64 (x8_1 + 1)), (by first | rfl | (simp; done) | (simp [*]; done)), (by first | rfl | (simp; done) | (simp [*]; done)), H', ⟨by have := HK1.out; omega⟩, by repeat (first | exact Drawn0.refl _ | apply Drawn0.step)⟩
              · rw [if_neg c8] at H
                exact absurd H (by simp)
          · rw [if_neg c4] at H
            exact absurd H (by simp)
        · rw [if_neg c3] at H
          exact absurd H (by simp)
      · rw [if_neg c2] at H
        have c2b0 : decide (x8_1 < (l0.length : Int)) = false := decide_eq_false c2
        clear c2
        obtain rfl := Option.some.inj H
        go_wp2
        go_ret
        exact ⟨by first | rfl | (simp; done) | (simp [*]; done), by repeat (first | exact Drawn0.refl _ | apply Drawn0.step)⟩
end
abbrev blankB : ByteArray := ⟨#[32]⟩
theorem blankB_size : blankB.size = 1 := rfl

def saidB (ws : List ByteArray) (w : Int) : Bool := decide (ws.length ≤ 60) && ws.all isWordB && (decide (1 ≤ w) && decide (w ≤ 80)) && ws.all (fun s => decide ((s.size : Int) ≤ w))

theorem allFit_val (ws : List ByteArray) (w : Int) (hs : ∀ s ∈ ws, s.size ≤ maxLen) : impl_allFit.f ws w = some (saidB ws w) := by
  unfold impl_allFit.f saidB
  rw [if_pos (by simpa using hs)]
theorem l1In_val (a lo hi : Int) : spec_l1In.f a lo hi = some (decide (lo ≤ a) && decide (a ≤ hi)) := by
  unfold spec_l1In.f
  by_cases h : a ≥ lo
  · rw [if_pos h, decide_eq_true (show lo ≤ a from h)]; simp
  · rw [if_neg h, decide_eq_false (show ¬ lo ≤ a from h)]; simp

theorem said_loop (ws : List ByteArray) (w : Int) (hl : ws.length ≤ 9223372036854775807) (hs : ∀ s ∈ ws, s.size ≤ maxLen) (d : Nat) : ∀ i : Nat, i + d = ws.length →
    Ev (fun k => spec_l13Said.l0 k ws w ws (ws.length : Int) (i : Int)) ((ws.drop i).all (fun s => isWordB s && decide ((s.size : Int) ≤ w)) && decide (ws.length ≤ 60) && (decide (1 ≤ w) && decide (w ≤ 80))) := by
  induction d with
  | zero =>
    intro i h
    refine Ev.succ ?_
    simp only [spec_l13Said.l0, if_neg (show ¬ ((i : Int) < (ws.length : Int)) by omega), l1In_val, Option.bind_some]
    rw [List.drop_eq_nil_of_le (by omega)]
    by_cases h60 : ws.length ≤ 60
    · simp only [if_pos (show (ws.length : Int) ≤ 60 by omega)]
      refine ev_eq (Ev.now _) ?_
      simp [h60]
    · simp only [if_neg (show ¬ (ws.length : Int) ≤ 60 by omega)]
      refine ev_eq (Ev.now _) ?_
      simp [h60]
  | succ d ih =>
    intro i h
    have e : ws.drop i = ws[i] :: ws.drop (i + 1) := List.drop_eq_getElem_cons (by omega)
    refine Ev.succ ?_
    simp only [spec_l13Said.l0, if_pos (show ((i : Int) < (ws.length : Int)) by omega), if_pos (show (0 : Int) ≤ i by omega), rdOf_get _ ws i (by omega), w64 (show -9223372036854775808 ≤ (i : Int) + 1 by omega) (by omega)]
    refine Ev.bind (l13Word_ev ws[i] (hs _ (List.getElem_mem (by omega)))) ?_
    rw [e, List.all_cons]
    cases hq : isWordB ws[i] with
    | false => simp only [Bool.false_eq_true, if_false, Bool.false_and]; exact Ev.now _
    | true =>
      simp only [if_true]
      by_cases hw : (ws[i].size : Int) > w
      · simp only [if_pos hw]
        refine ev_eq (Ev.now _) ?_
        rw [decide_eq_false (show ¬ (ws[i].size : Int) ≤ w by omega)]; simp
      · simp only [if_neg hw]
        refine ev_eq (ih (i + 1) (by omega)) ?_
        rw [decide_eq_true (show (ws[i].size : Int) ≤ w by omega)]; simp
theorem said_ev (ws : List ByteArray) (w : Int) (hl : ws.length ≤ maxLen) (hs : ∀ s ∈ ws, s.size ≤ maxLen) : Ev (fun k => spec_l13Said.f k ws w) (saidB ws w) := by
  refine ev_eq (said_loop ws w (by simpa [maxLen] using hl) hs ws.length 0 (by omega)) ?_
  unfold saidB
  rw [List.drop_zero, Bool.eq_iff_iff]
  simp only [Bool.and_eq_true, List.all_eq_true, decide_eq_true_eq]
  constructor
  · rintro ⟨⟨h1, h2⟩, h3⟩
    exact ⟨⟨⟨h2, fun s h => (h1 s h).1⟩, h3⟩, fun s h => (h1 s h).2⟩
  · rintro ⟨⟨⟨h2, h1⟩, h3⟩, h4⟩
    exact ⟨⟨fun s h => ⟨h1 s h, h4 s h⟩, h2⟩, h3⟩
theorem isWordB_size {s : ByteArray} (h : isWordB s = true) : 1 ≤ s.size ∧ s.size ≤ 80 := by
  unfold isWordB at h
  simp only [Bool.and_eq_true, decide_eq_true_eq] at h
  exact ⟨h.1.2, h.2⟩
theorem saidB_of {ws : List ByteArray} {w : Int} (h : saidB ws w = true) : ws.length ≤ 60 ∧ (∀ s ∈ ws, 1 ≤ s.size ∧ s.size ≤ 80 ∧ (s.size : Int) ≤ w) ∧ 1 ≤ w ∧ w ≤ 80 ∧ ∀ s ∈ ws, isWordB s = true := by
  unfold saidB at h
  simp only [Bool.and_eq_true, List.all_eq_true, decide_eq_true_eq] at h
  obtain ⟨⟨⟨h1, h2⟩, h3, h4⟩, h5⟩ := h
  exact ⟨h1, fun s hs => ⟨(isWordB_size (h2 s hs)).1, (isWordB_size (h2 s hs)).2, h5 s hs⟩, h3, h4, h2⟩

def joinGo (acc : ByteArray) : List ByteArray → ByteArray
  | [] => acc
  | s :: l => joinGo (acc ++ blankB ++ s) l
def joinB : List ByteArray → ByteArray
  | [] => ⟨#[]⟩
  | s :: l => joinGo s l
theorem joinGo_size (acc : ByteArray) (l : List ByteArray) : (joinGo acc l).size = acc.size + (l.map (fun s => s.size + 1)).sum := by
  induction l generalizing acc with
  | nil => simp [joinGo]
  | cons s l ih => rw [joinGo, ih]; simp [ByteArray.size_append, blankB_size]; omega
theorem joinGo_append (acc : ByteArray) (l m : List ByteArray) : joinGo acc (l ++ m) = joinGo (joinGo acc l) m := by
  induction l generalizing acc with
  | nil => rfl
  | cons s l ih => rw [List.cons_append, joinGo, joinGo, ih]
theorem sum_bd (l : List ByteArray) (b : Nat) (h : ∀ s ∈ l, s.size ≤ b) : (l.map (fun s => s.size + 1)).sum ≤ l.length * (b + 1) := by
  induction l with
  | nil => simp
  | cons s l ih =>
    have h1 := h s (List.mem_cons_self ..)
    have h2 := ih (fun t ht => h t (List.mem_cons_of_mem _ ht))
    simp only [List.map_cons, List.sum_cons, List.length_cons, Nat.add_mul]
    omega

theorem join_loop (ws : List ByteArray) (hl : ws.length ≤ 1000000) (hs : ∀ s ∈ ws, s.size ≤ 1048576) (d : Nat) : ∀ (i : Nat) (acc : ByteArray), 0 < i → i + d = ws.length → acc.size ≤ i * 1048577 →
    Ev (fun k => spec_l13Join.l0 k acc ws (ws.length : Int) (i : Int)) (joinGo acc (ws.drop i)) := by
  induction d with
  | zero =>
    intro i acc h0 h ha
    refine Ev.succ ?_
    simp only [spec_l13Join.l0, if_neg (show ¬ ((i : Int) < (ws.length : Int)) by omega)]
    rw [List.drop_eq_nil_of_le (by omega)]
    exact Ev.now _
  | succ d ih =>
    intro i acc h0 h ha
    have e : ws.drop i = ws[i] :: ws.drop (i + 1) := List.drop_eq_getElem_cons (by omega)
    have hz := hs ws[i] (List.getElem_mem (by omega))
    refine Ev.succ ?_
    simp only [spec_l13Join.l0, if_pos (show ((i : Int) < (ws.length : Int)) by omega), if_pos (show (0 : Int) ≤ i by omega), if_pos (show (i : Int) > 0 by omega), rdOf_get _ ws i (by omega), w64 (show -9223372036854775808 ≤ (i : Int) + 1 by omega) (by omega), if_pos (show acc.size + 1 ≤ 9223372036854775807 by omega)]
    simp only [if_pos (show (acc ++ (⟨#[32]⟩ : ByteArray)).size + ws[i].size ≤ 9223372036854775807 by rw [ByteArray.size_append]; show acc.size + 1 + _ ≤ _; omega)]
    rw [e, joinGo]
    refine ih (i + 1) _ (by omega) (by omega) ?_
    rw [ByteArray.size_append, ByteArray.size_append]
    show acc.size + 1 + _ ≤ _
    omega

theorem join_ev (ws : List ByteArray) (hl : ws.length ≤ 1000000) (hs : ∀ s ∈ ws, s.size ≤ 1048576) : Ev (fun k => spec_l13Join.f k ws) (joinB ws) := by
  unfold spec_l13Join.f
  cases ws with
  | nil =>
    refine Ev.succ ?_
    simp only [spec_l13Join.l0, List.length_nil]
    exact Ev.now _
  | cons s l =>
    have hz := hs s (List.mem_cons_self ..)
    refine Ev.succ ?_
    have e0 : rdOf ByteArray.empty (s :: l) 0 = s := rfl
    simp only [spec_l13Join.l0, if_pos (show (0 : Int) < ((s :: l).length : Int) by rw [List.length_cons]; omega), if_pos (show (0 : Int) ≤ 0 by omega), if_neg (show ¬ (0 : Int) > 0 by omega), e0, w64 (show -9223372036854775808 ≤ (0 : Int) + 1 by omega) (by omega)]
    have z0 : (⟨#[]⟩ : ByteArray).size = 0 := rfl
    have z1 : (⟨#[]⟩ : ByteArray) ++ s = s := ByteArray.empty_append
    simp only [z0, if_pos (show 0 + s.size ≤ 9223372036854775807 by omega), z1]
    exact join_loop (s :: l) hl hs l.length 1 s (by omega) (by rw [List.length_cons]; omega) (by omega)
structure Bst where
  c : Int
  l : Int
  n : Int
def zB : Bst := ⟨0, 0, 0⟩
def sqB (x : Int) : Int := x * x
def xB (W : Int) (w : ByteArray) (r : List ByteArray) (b : Bst) (s j : Int) : Bst := ⟨if r = [] then b.c else b.c + sqB (W - (s + (1 + (w.size : Int)))), b.l + 1, j + 1⟩
def leB (x y : Bst) : Bool := decide (x.c < y.c) || (decide (x.c = y.c) && decide (x.l ≤ y.l))
def ltB (x y : Bst) : Bool := decide (x.c < y.c) || (decide (x.c = y.c) && decide (x.l < y.l))
def upB (W : Int) : List ByteArray → List Bst → Int → Int → Bst → Bst
  | w :: r, b :: t, s, j, cur => if W < s + (1 + (w.size : Int)) then cur else
      upB W r t (s + (1 + (w.size : Int))) (j + 1) (if j = 0 ∨ leB (xB W w r b s j) cur = true then xB W w r b s j else cur)
  | _, _, _, _, cur => cur
def dnB (W : Int) : List ByteArray → List Bst → Int → Int → Bst
  | w :: r, b :: t, s, j => if W < s + (1 + (w.size : Int)) then dnB W r t (s + (1 + (w.size : Int))) (j + 1) else
      if (dnB W r t (s + (1 + (w.size : Int))) (j + 1)).n = 0 ∨ ltB (xB W w r b s j) (dnB W r t (s + (1 + (w.size : Int))) (j + 1)) = true then xB W w r b s j else dnB W r t (s + (1 + (w.size : Int))) (j + 1)
  | _, _, _, _ => zB
def tabB (W : Int) : List ByteArray → List Bst
  | [] => [zB]
  | w :: r => dnB W (w :: r) (tabB W r) (-1) 0 :: tabB W r
theorem tabB_length (W : Int) (ws : List ByteArray) : (tabB W ws).length = ws.length + 1 := by
  induction ws with
  | nil => rfl
  | cons w r ih => simp [tabB, ih]
theorem tabB_drop (W : Int) (ws : List ByteArray) : ∀ i, i ≤ ws.length → (tabB W ws).drop i = tabB W (ws.drop i) := by
  induction ws with
  | nil => intro i hi; simp only [List.length_nil, Nat.le_zero] at hi; subst hi; rfl
  | cons w r ih =>
    intro i hi
    cases i with
    | zero => rfl
    | succ i => simpa [tabB] using ih i (by simpa using hi)
theorem dnB_over (W : Int) (r : List ByteArray) : ∀ (t : List Bst) (s j : Int), W < s → dnB W r t s j = zB := by
  induction r with
  | nil => intro t s j _; rfl
  | cons w r ih =>
    intro t s j h
    cases t with
    | nil => rfl
    | cons b t =>
      rw [dnB, if_pos (by omega)]
      exact ih t _ _ (by omega)
theorem dnB_n (W : Int) (r : List ByteArray) : ∀ (t : List Bst) (s j : Int), 0 ≤ j → (dnB W r t s j).n = 0 ∨ (j + 1 ≤ (dnB W r t s j).n ∧ (dnB W r t s j).n ≤ j + (r.length : Int)) := by
  induction r with
  | nil => intro t s j _; exact .inl rfl
  | cons w r ih =>
    intro t s j hj
    cases t with
    | nil => exact .inl rfl
    | cons b t =>
      have hi := ih t (s + (1 + (w.size : Int))) (j + 1) (by omega)
      rw [dnB]
      simp only [List.length_cons]
      split
      · rcases hi with h | h
        · exact .inl h
        · right; omega
      · split
        · right; simp only [xB]; omega
        · rcases hi with h | h
          · exact .inl h
          · right; omega
def combB (cur o : Bst) : Bst := if o.n = 0 then cur else if leB o cur = true then o else cur
theorem upB_comb (W : Int) (r : List ByteArray) : ∀ (t : List Bst) (s j : Int) (cur : Bst), 0 < j → upB W r t s j cur = combB cur (dnB W r t s j) := by
  induction r with
  | nil => intro t s j cur _; rfl
  | cons w r ih =>
    intro t s j cur hj
    cases t with
    | nil => rfl
    | cons b t =>
      rw [upB, dnB]
      by_cases h : W < s + (1 + (w.size : Int))
      · rw [if_pos h, if_pos h, dnB_over W r t _ _ h]; rfl
      · rw [if_neg h, if_neg h, ih t _ _ _ (by omega)]
        have hn : (xB W w r b s j).n ≠ 0 := by simp only [xB]; omega
        generalize dnB W r t (s + (1 + (w.size : Int))) (j + 1) = o
        generalize xB W w r b s j = x at hn
        unfold combB leB ltB
        simp only [Bool.or_eq_true, Bool.and_eq_true, decide_eq_true_eq]
        have hj0 : ¬ j = 0 := by omega
        simp only [hj0, false_or]
        by_cases h0 : o.n = 0
        · simp only [h0, if_true, true_or, if_neg hn]
        · simp only [h0, if_false, false_or]
          by_cases hx : x.c < o.c ∨ (x.c = o.c ∧ x.l < o.l)
          · simp only [if_pos hx, if_neg hn]
            by_cases hc : x.c < cur.c ∨ (x.c = cur.c ∧ x.l ≤ cur.l)
            · simp only [if_pos hc]; rw [if_neg (by omega)]
            · simp only [if_neg hc]; rw [if_neg (by omega)]
          · simp only [if_neg hx, if_neg h0]
            by_cases hc : x.c < cur.c ∨ (x.c = cur.c ∧ x.l ≤ cur.l)
            · simp only [if_pos hc]; rw [if_pos (by omega), if_pos (by omega)]
            · simp only [if_neg hc]
theorem upB_dn (W : Int) (w : ByteArray) (r : List ByteArray) (t : List Bst) (ht : t ≠ []) (hw : (w.size : Int) ≤ W) (cur : Bst) : upB W (w :: r) t (-1) 0 cur = dnB W (w :: r) t (-1) 0 := by
  cases t with
  | nil => exact absurd rfl ht
  | cons b t =>
    have hnw : ¬ W < -1 + (1 + (w.size : Int)) := by omega
    rw [upB, dnB, if_neg hnw, if_neg hnw, upB_comb W r t _ _ _ (by omega)]
    have hn : (xB W w r b (-1) 0).n ≠ 0 := by simp only [xB]; omega
    generalize dnB W r t (-1 + (1 + (w.size : Int))) (0 + 1) = o
    generalize xB W w r b (-1) 0 = x at hn
    unfold combB leB ltB
    simp only [Bool.or_eq_true, Bool.and_eq_true, decide_eq_true_eq, true_or, if_true]
    by_cases h0 : o.n = 0
    · simp only [h0, if_true, true_or]
    · simp only [h0, if_false, false_or]
      by_cases hx : x.c < o.c ∨ (x.c = o.c ∧ x.l < o.l)
      · rw [if_pos hx, if_neg (by omega)]
      · rw [if_neg hx, if_pos (by omega)]
theorem sqB_bd {x : Int} (h0 : 0 ≤ x) (h1 : x ≤ 80) : 0 ≤ sqB x ∧ sqB x ≤ 6400 := by
  unfold sqB
  constructor
  · exact Int.mul_nonneg h0 h0
  · have := Int.mul_le_mul h1 h1 h0 (by omega); omega
def okB (M : Int) (b : Bst) : Prop := 0 ≤ b.c ∧ b.c ≤ 6400 * M ∧ 0 ≤ b.l ∧ b.l ≤ M
theorem okB_mono {M M' : Int} {b : Bst} (h : okB M b) (hm : M ≤ M') : okB M' b := ⟨h.1, by have := h.2.1; omega, h.2.2.1, by have := h.2.2.2; omega⟩
theorem xB_ok {W M : Int} {w : ByteArray} {r : List ByteArray} {b : Bst} {s j : Int} (hb : okB M b) (hW : W ≤ 80) (h : ¬ W < s + (1 + (w.size : Int))) (hs : -1 ≤ s) : okB (M + 1) (xB W w r b s j) := by
  obtain ⟨h1, h2, h3, h4⟩ := hb
  have hq := sqB_bd (x := W - (s + (1 + (w.size : Int)))) (by omega) (by omega)
  unfold okB xB
  simp only
  split <;> refine ⟨by omega, by omega, by omega, by omega⟩
theorem dnB_ok (W M : Int) (hW : W ≤ 80) (hM : 0 ≤ M) (r : List ByteArray) : ∀ (t : List Bst) (s j : Int), (∀ b ∈ t, okB M b) → -1 ≤ s → okB (M + 1) (dnB W r t s j) := by
  induction r with
  | nil => intro t s j _ _; exact ⟨Int.le_refl 0, by show (0 : Int) ≤ _; omega, Int.le_refl 0, by show (0 : Int) ≤ _; omega⟩
  | cons w r ih =>
    intro t s j ht hs
    cases t with
    | nil => exact ⟨Int.le_refl 0, by show (0 : Int) ≤ _; omega, Int.le_refl 0, by show (0 : Int) ≤ _; omega⟩
    | cons b t =>
      have hi := ih t (s + (1 + (w.size : Int))) (j + 1) (fun x hx => ht x (List.mem_cons_of_mem _ hx)) (by omega)
      rw [dnB]
      split
      · exact hi
      · rename_i h
        split
        · exact xB_ok (ht b List.mem_cons_self) hW h hs
        · exact hi
theorem tabB_ok (W : Int) (hW : W ≤ 80) (ws : List ByteArray) : ∀ b ∈ tabB W ws, okB (ws.length : Int) b := by
  induction ws with
  | nil => intro b hb; simp only [tabB, List.mem_singleton] at hb; subst hb; exact ⟨Int.le_refl 0, by show (0 : Int) ≤ _; omega, Int.le_refl 0, by show (0 : Int) ≤ _; omega⟩
  | cons w r ih =>
    intro b hb
    simp only [tabB, List.mem_cons] at hb
    rcases hb with rfl | hb
    · have := dnB_ok W (r.length : Int) hW (by omega) (w :: r) (tabB W r) (-1) 0 ih (by omega)
      simpa using this
    · exact okB_mono (ih b hb) (by simp only [List.length_cons]; omega)
theorem tabB_words (W : Int) (w : ByteArray) (r : List ByteArray) (hw : (w.size : Int) ≤ W) : 1 ≤ (dnB W (w :: r) (tabB W r) (-1) 0).n ∧ (dnB W (w :: r) (tabB W r) (-1) 0).n ≤ (r.length : Int) + 1 := by
  have h := dnB_n W (w :: r) (tabB W r) (-1) 0 (by omega)
  have h0 : (dnB W (w :: r) (tabB W r) (-1) 0).n ≠ 0 := by
    cases ht : tabB W r with
    | nil => have := tabB_length W r; rw [ht] at this; simp at this
    | cons b t =>
      rw [dnB, if_neg (by omega)]
      split
      · simp only [xB]; omega
      · rename_i h2; exact fun e => h2 (.inl e)
  simp only [List.length_cons] at h
  omega
def linesB (ws : List ByteArray) (T : List Bst) : Nat → Nat → List ByteArray
  | 0, _ => []
  | k + 1, i => if i < ws.length then joinB ((ws.take (i + (T.getD i zB).n.toNat)).drop i) :: linesB ws T k (i + (T.getD i zB).n.toNat) else []
def bestB (ws : List ByteArray) (W : Int) : List ByteArray × Int × Bool :=
  if saidB ws W = true then (linesB ws (tabB W ws) (ws.length + 1) 0, ((tabB W ws).getD 0 zB).c, true) else ([], 0, false)
section
variable {P : Program} {ops : Array Oper} {rest : List Oper} {o : Oper} {a a' : Act} {Q : Exit → Act → World → Prop} {W : World}
theorem bx (N : Tmp) (cs : Array Value) (t : TypeId)
    (h : ∀ g, g = W.heap.size → ∀ w1, w1.heap[g]? = some (.cells cs t (0, 0)) → Below W.heap.size W w1 → wpList P ops Q rest (a.put o.dst (.pointer (some ⟨g, 0, none⟩))) w1)
    (hd : o.dst = some N := by rfl) (hgd : o.guard = none := by rfl)
    (hrun : (execOp a.eval o).run P W = .ok (.value (.pointer (some ⟨W.heap.size, 0, none⟩))) (W.alloc (.cells cs t (0, 0))) := by first | (go_simp; done) | (go_simp; rfl)) : wpList P ops Q (o :: rest) a W :=
  box_event hgd hd hrun h
end
section
variable {P : Program} {ops : Array Oper} {Q : Exit → Act → World → Prop} {md : Region.Mode} {S : World → Prop} {fuel : Nat} {listed : Array Bool} {a a' : Act} {w : World} {oi : Oper}
theorem tF (i : Nat) {G : World → Prop} {v : Value} (F : ∀ w, S w → G w)
    (h : wpAnyH P md ops Q S fuel (listed.setIfInBounds i true) a' w) (hi : ops[i]? = some oi := by rfl) (hs : Region.noSelect ops = true := by kernel_rfl) (hf : Region.free md ops listed i = true := by kernel_rfl) (hr : (Region.ready md ops listed).contains i = true := by kernel_rfl)
    (hw : Region.wanted oi (yielded ops a.tmps) = true := by rfl) (hS : S w := by assumption)
    (hy : ∀ w, G w → (execOp a.eval oi).run P w = .ok (.value v) w := by (intro w hSw; (try dsimp only at hSw); go_simp; (try with_reducible rfl)))
    (hQ : ∀ c a w, Q (.panic c) (a.put oi.dst v) w → Q (.panic c) a w := by exact fun _ _ _ h => h)
    (ha : a.put oi.dst v = a' := by (simp only [Act.put, List.getElem_toArray, List.getElem_cons_succ, List.getElem_cons_zero, List.setIfInBounds_toArray, List.set_cons_zero, List.set_cons_succ]; rfl)) : wpAnyH P md ops Q S (fuel + 1) listed a w :=
  wpAnyH_take hi hs hf hr hQ (Or.inl ⟨hw, fun w hw => hy w (F w hw)⟩) hS (ha ▸ h)
end
theorem cells3 {w : World} {g : Nat} {t : TypeId} {a b c : Value} (h : w.heap[g]? = some (.cells #[a, b, c] t (0, 0))) : w.cell? ⟨g, 0, none⟩ = some a ∧ w.cell? ⟨g, 1, none⟩ = some b ∧ w.cell? ⟨g, 2, none⟩ = some c := ⟨(blk_cell h 0).trans rfl, (blk_cell h 1).trans rfl, (blk_cell h 2).trans rfl⟩
theorem froz3 {w : World} {g : Nat} {t : TypeId} {cs : Array Value} (h : w.heap[g]? = some (.cells cs t (0, 0))) : w.frozen? ⟨g, 0, none⟩ = false ∧ w.frozen? ⟨g, 1, none⟩ = false ∧ w.frozen? ⟨g, 2, none⟩ = false := ⟨blk_frozen h 0, blk_frozen h 1, blk_frozen h 2⟩
theorem fill3 {w w3 : World} {g : Nat} {t : TypeId} {z0 z1 z2 v0 v1 v2 : Value} (hb : Below w.heap.size w w3) (hg : w.heap.size ≤ g) (h : w3.heap[g]? = some (.cells #[z0, z1, z2] t (0, 0))) :
    (((w3.setCell ⟨g, 0, none⟩ v0).setCell ⟨g, 1, none⟩ v1).setCell ⟨g, 2, none⟩ v2).heap[g]? = some (.cells #[v0, v1, v2] t (0, 0)) ∧ Below w.heap.size w (((w3.setCell ⟨g, 0, none⟩ v0).setCell ⟨g, 1, none⟩ v1).setCell ⟨g, 2, none⟩ v2) :=
  ⟨blk_put (cs' := #[v0, v1, v2]) (blk_put (cs' := #[v0, v1, z2]) (blk_put (cs' := #[v0, z1, z2]) h 0 v0 rfl) 1 v1 rfl) 2 v2 rfl, below_set (below_set (below_set hb hg) hg) hg⟩
def toI (b : Bst) : S44 := ⟨b.c, b.l, b.n⟩
def RowI (W : World) (base g cap : Nat) (T : List Bst) : Prop := Kd.R k44 44 W base (fun k => k = g) (.slice (some ⟨g, 0, none⟩) T.length cap) (T.map toI)
theorem RowI.len {W : World} {base g cap : Nat} {T : List Bst} (h : RowI W base g cap T) : T.length ≤ cap := (Kd.R_reads' h).2.1
theorem RowI.below {W W' : World} {base g cap : Nat} {T : List Bst} (h : RowI W base g cap T) (hb : Below W.heap.size W W') : RowI W' base g cap T := Kd.R_below h hb
theorem RowI.get {W : World} {base g cap : Nat} {T : List Bst} (h : RowI W base g cap T) (i : Nat) (hi : i < T.length) :
    W.cell? ⟨g, i * 3, none⟩ = some (.int .i64 (T.getD i zB).c) ∧ W.cell? ⟨g, i * 3 + 1, none⟩ = some (.int .i64 (T.getD i zB).l) ∧ W.cell? ⟨g, i * 3 + 2, none⟩ = some (.int .i64 (T.getD i zB).n) ∧
    W.frozen? ⟨g, i * 3, none⟩ = false ∧ W.frozen? ⟨g, i * 3 + 1, none⟩ = false ∧ W.frozen? ⟨g, i * 3 + 2, none⟩ = false := by
  obtain ⟨c, hcl, hM, hcc, hfr⟩ := Kd.R_elem h z44 (i : Int) (by omega) (by omega)
  have hsz : k44.sz = 3 := rfl
  rw [Int.toNat_natCast, List.getD_eq_getElem?_getD, List.getElem?_map, List.getElem?_eq_getElem hi] at hM
  have hc := k44_openM hM
  subst hc
  rw [hsz, Int.toNat_natCast] at hcc hfr
  rw [List.getD_eq_getElem?_getD, List.getElem?_eq_getElem hi]
  exact ⟨hcc 0 _ rfl, hcc 1 _ rfl, hcc 2 _ rfl, hfr 0, hfr 1, hfr 2⟩
theorem RowI.put {W : World} {base g cap : Nat} {T : List Bst} (h : RowI W base g cap T) (i : Nat) (hi : i < T.length) (b : Bst) :
    RowI (((W.setCell ⟨g, i * 3, none⟩ (.int .i64 b.c)).setCell ⟨g, i * 3 + 1, none⟩ (.int .i64 b.l)).setCell ⟨g, i * 3 + 2, none⟩ (.int .i64 b.n)) base g cap (T.set i b) ∧
    W.grownBy (((W.setCell ⟨g, i * 3, none⟩ (.int .i64 b.c)).setCell ⟨g, i * 3 + 1, none⟩ (.int .i64 b.l)).setCell ⟨g, i * 3 + 2, none⟩ (.int .i64 b.n)) (some g) := by
  obtain ⟨c, hcl, hM, hcc, hfr⟩ := Kd.R_elem h z44 (i : Int) (by omega) (by omega)
  have hsz : k44.sz = 3 := rfl
  have := Kd.R_seg h (i : Int) (by omega) (by omega) hcl hcc (seg := [.int .i64 b.c, .int .i64 b.l, .int .i64 b.n]) (j := 0) (by show 0 + 3 ≤ 3; omega) (x' := toI b) (okp := fun _ => False) (by
    have e : c.drop 3 = [] := List.drop_eq_nil_of_le (by rw [hcl, hsz]; exact Nat.le_refl 3)
    simp only [List.take_zero, List.nil_append, List.length_cons, List.length_nil, Nat.zero_add, e, List.append_nil]
    exact k44_mkM _ _ _ (toI b)) (fun _ hk => hk.elim)
  rw [hsz, Int.toNat_natCast, Nat.add_zero] at this
  unfold RowI
  rw [List.length_set, List.map_set]
  exact this
theorem RowI.lo {W : World} {base g cap : Nat} {T : List Bst} (h : RowI W base g cap T) : base ≤ g := Kd.R_base h g (by simp [Value.ownBlock])
theorem RowI.made {W : World} {base : Nat} {v : Value} {n : Nat} (h : Kd.R k44 44 W base (fun _ => True) v (List.replicate n z44)) (hn : 0 < n) : ∃ g cap, v = .slice (some ⟨g, 0, none⟩) n cap ∧ RowI W base g cap (List.replicate n zB) := by
  obtain ⟨g, cap, rfl, _, _, _⟩ := Kd.R_form h (by rw [List.length_replicate]; exact hn)
  rw [List.length_replicate] at h
  refine ⟨g, cap, by rw [List.length_replicate], ?_⟩
  have h2 := Kd.R_flat (ok' := fun k => k = g) (fun hM => by rw [k44_openM hM]; exact k44_mkM _ _ _ _) h (fun k hk _ => by simpa [Value.ownBlock] using hk.symm)
  unfold RowI
  rw [List.length_replicate, List.map_replicate]
  exact h2

def toS (b : Bst) : S49 := ⟨b.c, b.l, b.n⟩
def RowS (W : World) (base g cap : Nat) (T : List Bst) : Prop := Kd.R k49 49 W base (fun k => k = g) (.slice (some ⟨g, 0, none⟩) T.length cap) (T.map toS)
theorem RowS.len {W : World} {base g cap : Nat} {T : List Bst} (h : RowS W base g cap T) : T.length ≤ cap := (Kd.R_reads' h).2.1
theorem RowS.below {W W' : World} {base g cap : Nat} {T : List Bst} (h : RowS W base g cap T) (hb : Below W.heap.size W W') : RowS W' base g cap T := Kd.R_below h hb
theorem RowS.get {W : World} {base g cap : Nat} {T : List Bst} (h : RowS W base g cap T) (i : Nat) (hi : i < T.length) :
    W.cell? ⟨g, i * 3, none⟩ = some (.int .i64 (T.getD i zB).c) ∧ W.cell? ⟨g, i * 3 + 1, none⟩ = some (.int .i64 (T.getD i zB).l) ∧ W.cell? ⟨g, i * 3 + 2, none⟩ = some (.int .i64 (T.getD i zB).n) ∧
    W.frozen? ⟨g, i * 3, none⟩ = false ∧ W.frozen? ⟨g, i * 3 + 1, none⟩ = false ∧ W.frozen? ⟨g, i * 3 + 2, none⟩ = false := by
  obtain ⟨c, hcl, hM, hcc, hfr⟩ := Kd.R_elem h z49 (i : Int) (by omega) (by omega)
  have hsz : k49.sz = 3 := rfl
  rw [Int.toNat_natCast, List.getD_eq_getElem?_getD, List.getElem?_map, List.getElem?_eq_getElem hi] at hM
  have hc := k49_openM hM
  subst hc
  rw [hsz, Int.toNat_natCast] at hcc hfr
  rw [List.getD_eq_getElem?_getD, List.getElem?_eq_getElem hi]
  exact ⟨hcc 0 _ rfl, hcc 1 _ rfl, hcc 2 _ rfl, hfr 0, hfr 1, hfr 2⟩
theorem RowS.put {W : World} {base g cap : Nat} {T : List Bst} (h : RowS W base g cap T) (i : Nat) (hi : i < T.length) (b : Bst) :
    RowS (((W.setCell ⟨g, i * 3, none⟩ (.int .i64 b.c)).setCell ⟨g, i * 3 + 1, none⟩ (.int .i64 b.l)).setCell ⟨g, i * 3 + 2, none⟩ (.int .i64 b.n)) base g cap (T.set i b) ∧
    W.grownBy (((W.setCell ⟨g, i * 3, none⟩ (.int .i64 b.c)).setCell ⟨g, i * 3 + 1, none⟩ (.int .i64 b.l)).setCell ⟨g, i * 3 + 2, none⟩ (.int .i64 b.n)) (some g) := by
  obtain ⟨c, hcl, hM, hcc, hfr⟩ := Kd.R_elem h z49 (i : Int) (by omega) (by omega)
  have hsz : k49.sz = 3 := rfl
  have := Kd.R_seg h (i : Int) (by omega) (by omega) hcl hcc (seg := [.int .i64 b.c, .int .i64 b.l, .int .i64 b.n]) (j := 0) (by show 0 + 3 ≤ 3; omega) (x' := toS b) (okp := fun _ => False) (by
    have e : c.drop 3 = [] := List.drop_eq_nil_of_le (by rw [hcl, hsz]; exact Nat.le_refl 3)
    simp only [List.take_zero, List.nil_append, List.length_cons, List.length_nil, Nat.zero_add, e, List.append_nil]
    exact k49_mkM _ _ _ (toS b)) (fun _ hk => hk.elim)
  rw [hsz, Int.toNat_natCast, Nat.add_zero] at this
  unfold RowS
  rw [List.length_set, List.map_set]
  exact this
theorem RowS.lo {W : World} {base g cap : Nat} {T : List Bst} (h : RowS W base g cap T) : base ≤ g := Kd.R_base h g (by simp [Value.ownBlock])
theorem RowS.made {W : World} {base : Nat} {v : Value} {n : Nat} (h : Kd.R k49 49 W base (fun _ => True) v (List.replicate n z49)) (hn : 0 < n) : ∃ g cap, v = .slice (some ⟨g, 0, none⟩) n cap ∧ RowS W base g cap (List.replicate n zB) := by
  obtain ⟨g, cap, rfl, _, _, _⟩ := Kd.R_form h (by rw [List.length_replicate]; exact hn)
  rw [List.length_replicate] at h
  refine ⟨g, cap, by rw [List.length_replicate], ?_⟩
  have h2 := Kd.R_flat (ok' := fun k => k = g) (fun hM => by rw [k49_openM hM]; exact k49_mkM _ _ _ _) h (fun k hk _ => by simpa [Value.ownBlock] using hk.symm)
  unfold RowS
  rw [List.length_replicate, List.map_replicate]
  exact h2
end Go.Proofs.Ytokklflckaikgaa.X
namespace Go.Proofs.Ytokklflckaikgaa.X
open Go.Shelf
def lJoin_ren : Go.Shelf.Ren := ⟨fun | 156 => 23 | 165 => 45 | 166 => 46 | 169 => 47 | 240 => 63 | 241 => 64 | 276 => 67 | 277 => 68 | n => n, fun | 0 => 0 | 3 => 3 | 4 => 4 | 5 => 5 | 9 => 9 | 20 => 20 | 31 => 23 | 37 => 22 | 70 => 68 | 72 => 70 | 75 => 73 | 76 => 74 | 80 => 67 | 127 => 86 | 164 => 89 | n => n, fun | n => n⟩
theorem lJoin : Go.Proofs.Lays.n156 Try.prog lJoin_ren := {
  mixed := by kernel_rfl
  f156 := Try.func23.trans (congrArg some (by kernel_rfl))
  f165 := Try.func45.trans (congrArg some (by kernel_rfl))
  f166 := Try.func46.trans (congrArg some (by kernel_rfl))
  f169 := Try.func47.trans (congrArg some (by kernel_rfl))
  f240 := Try.func63.trans (congrArg some (by kernel_rfl))
  f241 := Try.func64.trans (congrArg some (by kernel_rfl))
  f276 := Try.func67.trans (congrArg some (by kernel_rfl))
  f277 := Try.func68.trans (congrArg some (by kernel_rfl))
  t0 := Try.underlying0
  a0 := Try.isAgg0
  z0 := Try.sizeOf0
  v0 := Try.zeroValue0
  t3 := Try.underlying3
  a3 := Try.isAgg3
  z3 := Try.sizeOf3
  v3 := Try.zeroValue3
  t4 := Try.underlying4
  a4 := Try.isAgg4
  z4 := Try.sizeOf4
  v4 := Try.zeroValue4
  t9 := Try.underlying9
  a9 := Try.isAgg9
  z9 := Try.sizeOf9
  v9 := Try.zeroValue9
  t20 := Try.underlying20
  a20 := Try.isAgg20
  z20 := Try.sizeOf20
  v20 := Try.zeroValue20
  t31 := Try.underlying23
  a31 := Try.isAgg23
  z31 := Try.sizeOf23
  v31 := Try.zeroValue23
  t37 := Try.underlying22
  a37 := Try.isAgg22
  z37 := Try.sizeOf22
  v37 := Try.zeroValue22
  t70 := Try.underlying68
  a70 := Try.isAgg68
  z70 := Try.sizeOf68
  v70 := Try.zeroValue68
  t72 := Try.underlying70
  a72 := Try.isAgg70
  z72 := Try.sizeOf70
  v72 := Try.zeroValue70
  t75 := Try.underlying73
  a75 := Try.isAgg73
  z75 := Try.sizeOf73
  v75 := Try.zeroValue73
  t76 := Try.underlying74
  a76 := Try.isAgg74
  z76 := Try.sizeOf74
  v76 := Try.zeroValue74
  t127 := Try.underlying86
  a127 := Try.isAgg86
  z127 := Try.sizeOf86
  v127 := Try.zeroValue86
  t164 := Try.underlying89
  a164 := Try.isAgg89
  z164 := Try.sizeOf89
  v164 := Try.zeroValue89 }
theorem lJoinX : Builder.Extra Try.prog lJoin_ren := {
  sizeBuilder := by kernel_rfl
  liesBuilder := by kernel_rfl
  t5 := Try.underlying5
  a5 := Try.isAgg5
  z5 := Try.sizeOf5
  v5 := Try.zeroValue5
  infoByte := by kernel_rfl
  cellsByte := by kernel_rfl
  sizeByte := by kernel_rfl
  neB5 := by decide }
open Go.RowKit in
theorem join_k (bk o c : Nat) (xs : List ByteArray) (sep : ByteArray) (w : World)
    (hcells : ∀ (j : Nat) x, xs[j]? = some x → w.cell? ⟨bk, o + j, none⟩ = some (.string x))
    (hbk : bk < w.heap.size) (hN : xs.length ≤ 140737488355328) (hcap : xs.length ≤ c)
    (hlen : (Lib.join (xs.map (·.data.toList)) sep.data.toList).length ≤ 140737488355328) :
    Calls Try.prog 23 #[.slice (some ⟨bk, o, none⟩) xs.length c, .string sep] w fun e w' => e = .returned (.string ⟨(Lib.join (xs.map (·.data.toList)) sep.data.toList).toArray⟩) ∧ Below w.heap.size w w' :=
  Any.strings_Join lJoin lJoinX bk o c xs sep w hcells hbk hN hcap hlen
end Go.Proofs.Ytokklflckaikgaa.X
namespace Go.Proofs.Ytokklflckaikgaa.X
open Go.RowKit Go.Proofs.YtokklflckaikgaaW.PrintWords Go.Proofs.YtokklflckaikgaaW.PrintLast Go.Proofs.YtokklflckaikgaaW.PrintMore
theorem joinGo_list (l : List ByteArray) : ∀ acc : ByteArray, (joinGo acc l).data.toList = acc.data.toList ++ Lib.joinTail [32] (l.map (·.data.toList)) := by
  induction l with
  | nil => intro acc; simp [joinGo, Lib.joinTail]
  | cons s l ih =>
    intro acc
    rw [joinGo, ih]
    simp [Lib.joinTail, ByteArray.data_append]
theorem joinB_list (l : List ByteArray) : (joinB l).data.toList = Lib.join (l.map (·.data.toList)) [32] := by
  cases l with
  | nil => rfl
  | cons s l => rw [joinB, joinGo_list, List.map_cons, Lib.join_cons]
theorem joinB_size (l : List ByteArray) (hl : l.length ≤ 60) (hs : ∀ s ∈ l, s.size ≤ 80) : (joinB l).size ≤ 4940 := by
  cases l with
  | nil => exact Nat.zero_le _
  | cons s l =>
    rw [joinB, joinGo_size]
    have h1 := hs s List.mem_cons_self
    have h2 := sum_bd l 80 (fun t ht => hs t (List.mem_cons_of_mem _ ht))
    simp only [List.length_cons] at hl
    omega
theorem spot_none {w : World} {ad : Addr} {v : Value} (h : w.cell? ad = some v) : ad.spot = none := by
  unfold World.cell? at h
  split at h
  · split at h
    · exact absurd h (by simp)
    · rename_i hn; simpa using hn
  · exact absurd h (by simp)
theorem joinC (A : Option Addr) (c : Nat) (l : List ByteArray) (w : World) (hr : Kd.C Kd.string w A l.length l) (hc : l.length ≤ c) (hl : l.length ≤ 60) (hs : ∀ s ∈ l, s.size ≤ 80) (hne : l ≠ []) :
    Calls Try.prog 23 #[.slice A l.length c, .string blankB] w fun e w' => e = .returned (.string (joinB l)) ∧ Below w.heap.size w w' := by
  have hpos : 0 < l.length := List.length_pos_iff.2 hne
  have h1 := fun (j : Nat) (h : j < l.length) => Kd.at_string hr (j : Int) (by omega) (by omega)
  obtain ⟨ad, rfl, h0⟩ := h1 0 hpos
  have e0 : ad.add ((0 : Nat) : Int).toNat = ad := rfl
  rw [e0] at h0
  have hsp := spot_none h0
  obtain ⟨bk, o, sp⟩ := ad
  simp only at hsp
  subst hsp
  have hb := joinB_size l hl hs
  have hjl := joinB_list l
  have hcells : ∀ (j : Nat) x, l[j]? = some x → w.cell? ⟨bk, o + j, none⟩ = some (.string x) := by
    intro j x hj
    obtain ⟨hjl, rfl⟩ := List.getElem?_eq_some_iff.1 hj
    obtain ⟨ad2, e2, h2⟩ := h1 j hjl
    cases e2
    rw [rdOf_get _ l j hjl] at h2
    have e3 : (⟨bk, o, none⟩ : Addr).add ((j : Int)).toNat = ⟨bk, o + j, none⟩ := by
      rw [Int.toNat_natCast]
      unfold Addr.add
      split
      · rename_i h; subst h; rfl
      · rfl
    rw [e3] at h2
    exact h2
  have := join_k bk o c l blankB w hcells (World.block_lt_of_cell? w _ h0) (by omega) hc (by
    have e4 : blankB.data.toList = [32] := rfl
    rw [e4, ← hjl]
    have : (joinB l).data.toList.length = (joinB l).size := Array.length_toList
    omega)
  have e4 : blankB.data.toList = [32] := rfl
  rw [e4, ← hjl] at this
  have e5 : (⟨(joinB l).data.toList.toArray⟩ : ByteArray) = joinB l := rfl
  rw [e5] at this
  exact this
theorem tab_words (W : Int) (ws : List ByteArray) (hs : ∀ s ∈ ws, (s.size : Int) ≤ W) (i : Nat) (hi : i < ws.length) : 1 ≤ ((tabB W ws).getD i zB).n ∧ ((tabB W ws).getD i zB).n ≤ (ws.length : Int) - i := by
  have hd := tabB_drop W ws i (by omega)
  have hl := tabB_length W ws
  rw [List.drop_eq_getElem_cons (show i < (tabB W ws).length by omega), List.drop_eq_getElem_cons hi, tabB] at hd
  have h1 := (List.cons.inj hd).1
  rw [List.getD_eq_getElem?_getD, List.getElem?_eq_getElem (show i < (tabB W ws).length by omega), Option.getD_some, h1]
  have := tabB_words W ws[i] (ws.drop (i + 1)) (hs _ (List.getElem_mem hi))
  rw [List.length_drop] at this
  omega
theorem tab_at (W : Int) (r : List ByteArray) (j : Nat) (h : j ≤ r.length) : (tabB W r).drop j = (tabB W r).getD j zB :: (tabB W r).drop (j + 1) := by
  have hl := tabB_length W r
  rw [List.drop_eq_getElem_cons (by omega), List.getD_eq_getElem?_getD, List.getElem?_eq_getElem (by omega)]
  rfl

set_option maxHeartbeats 8000000 in
set_option maxRecDepth 100000 in
theorem bestLines_walk (A : Option Addr) (c : Nat) (ws : List ByteArray) (W : Int) (w : World) (hr : Kd.C Kd.string w A ws.length ws) (hc : ws.length ≤ c) (hs : ∀ s ∈ ws, s.size ≤ maxLen) :
    Calls Try.prog 6 #[.slice A ws.length c, .int .i64 W] w fun e w' => ∃ v0_ : Value, e = .returned (.tuple #[v0_, .int .i64 (bestB ws W).2.1, .bool (bestB ws W).2.2]) ∧ Kd.R Kd.string 9 w' w.heap.size (fun _ => True) v0_ (bestB ws W).1 ∧ Below w.heap.size w w' := by
  have HR := mz hr
  have HC := mz hc
  have hfit := allFit_val ws W hs
  have HS := mz hs
  clear hr hc hs
  cases hsd : saidB ws W with
  | false =>
    have hres : bestB ws W = ([], 0, false) := by simp [bestB, hsd]
    rw [hres]
    rw [hsd] at hfit
    have HF := mz hfit
    clear hfit hsd hres
    go_enter Try.func6, Try.ntmps6
    go_wp2_with fail
    refine (impl_allFit.calls A c ws W false _ HR.out HC.out HF.out).mono ?_
    rintro e w1 ⟨rfl, hb⟩
    have HB1 := mz hb
    clear hb
    go_wp2_with fail
    go_ret3
    exact ⟨.slice none 0 0, rfl, Kd.R_nil _ _ _ _ _, HB1.out⟩
  | true =>
    obtain ⟨hn60, hsz, hW1, hW80, _⟩ := saidB_of hsd
    have hres : bestB ws W = (linesB ws (tabB W ws) (ws.length + 1) 0, ((tabB W ws).getD 0 zB).c, true) := by simp [bestB, hsd]
    rw [hres]
    rw [hsd] at hfit
    have HF := mz hfit
    have HSZ := mz hsz
    clear hfit hsd hres hsz
    have hw1 : (ws.length : Int) + 1 ≤ 61 := by omega
    have hz1 : 0 ≤ (ws.length : Int) + 1 := by omega
    have hzn : ((ws.length : Int) + 1).toNat = ws.length + 1 := by omega
    go_enter Try.func6, Try.ntmps6
    go_wp2_with fail
    refine (impl_allFit.calls A c ws W true _ HR.out HC.out HF.out).mono ?_
    rintro e w1 ⟨rfl, hb⟩
    have HB1 := mz hb
    clear hb
    go_wp2_with ((with_reducible refine gate_dst (N := 25) rfl ?_); refine Kd.R_make (w0 := w) k44 w.heap.size 44 rfl (N := 25) rfl 42 _ _ rfl ((ws.length : Int) + 1) rfl rfl Try.underlying42 (.agg #[(.int .i64 0), (.int .i64 0), (.int .i64 0)]) 24 info44 rfl (by decide) (by omega) z44 (ok := fun _ => True) (okp := fun _ => True) (k44_mkM _ _ _ z44) (fun _ hk => hk) trivial hz1 (by rw [hzn]; omega) HB1.out HB1.out.size ?_; intro v25 w2 hR25 hB25 hg25 hn25; have HR2 := mz hR25; have HB2 := mz hB25; clear hR25 hB25 hg25 hn25)
    obtain ⟨g, cap, hg, hrow⟩ := RowI.made HR2.out (by rw [hzn]; omega)
    subst hg
    rw [hzn] at hrow ⊢
    have HRW := mz hrow
    clear hrow hz1 hw1 hzn HR2 HF HB1
    go_loopg [9] (ws.length + 1) (fun gg z9 wr => ∃ (ii : Nat) (z : Int), ii ≤ ws.length ∧ ii + 1 ≤ gg ∧ z9 = .int .i64 z ∧ z = (ii : Int) - 1 ∧ Aside0 (RowI wr w.heap.size g cap (List.replicate ii zB ++ tabB W (ws.drop ii))) ∧ Aside0 (Below w.heap.size w wr))
    case atStart => exact ⟨ws.length, _, Nat.le_refl _, by omega, rfl, rfl, ⟨by rw [List.drop_eq_nil_of_le (Nat.le_refl _), show tabB W [] = List.replicate 1 zB from rfl, List.replicate_append_replicate]; exact HRW.out⟩, HB2⟩
    case round =>
      clear HB2 HRW
      obtain ⟨ii, z, hii, hgk, rfl, hz, RW, BW⟩ := hrel
      cases ii with
      | succ m =>
        have hzm : z = (m : Int) := by omega
        subst hzm
        clear hz
        have hm : m < ws.length := hii
        have hmz : (0 : Int) ≤ (m : Int) := by omega
        obtain ⟨wm, hwm⟩ : ∃ x, x = ws[m] := ⟨_, rfl⟩
        obtain ⟨r, hr⟩ : ∃ x, x = ws.drop (m + 1) := ⟨_, rfl⟩
        have hrl : r.length + (m + 1) = ws.length := by rw [hr, List.length_drop]; omega
        have hdm : ws.drop m = wm :: r := by rw [hwm, hr]; exact List.drop_eq_getElem_cons hm
        have hT : List.replicate (m + 1) zB ++ tabB W (ws.drop (m + 1)) = List.replicate m zB ++ zB :: tabB W r := by rw [← hr, List.replicate_succ', List.append_assoc]; rfl
        have RW2 := RW.out
        rw [hT] at RW2
        clear RW hT
        have RW := mz RW2
        have HDM := mz hdm
        have HRL := mz hrl
        have HRR := mz hr
        have hwmW := (HSZ.out ws[m] (List.getElem_mem hm)).2.2
        rw [← hwm] at hwmW
        have HWM := mz hwmW
        clear RW2 hdm hr hwm hwmW
        go_wp2_with fail
        go_loopg [10, 11] (ws.length - m) (fun gg z10 z11 wr => ∃ (jj k : Nat) (s : Int) (cur : Bst), k = m + jj ∧ k ≤ ws.length ∧ ws.length - k ≤ gg ∧ z10 = .int .i64 s ∧ z11 = .int .i64 (k : Int) ∧ -1 ≤ s ∧ s ≤ 80 ∧ Aside0 (RowI wr w.heap.size g cap (List.replicate m zB ++ cur :: tabB W r)) ∧ Aside0 (Below w.heap.size w wr) ∧ Aside0 (upB W (wm :: r) (tabB W r) (-1) 0 zB = upB W (ws.drop k) ((tabB W r).drop jj) s (jj : Int) cur) ∧ Aside0 (okB (r.length + 1) cur))
        case atStart => exact ⟨0, m, -1, zB, rfl, by omega, by omega, rfl, rfl, by omega, by omega, RW, BW, ⟨by rw [HDM.out]; rfl⟩, ⟨⟨Int.le_refl 0, by show (0 : Int) ≤ _; omega, Int.le_refl 0, by show (0 : Int) ≤ _; omega⟩⟩⟩
        case round =>
          clear RW BW
          obtain ⟨jj, k, s, cur, hk, hkl, hgj, rfl, rfl, hs0, hs1, RW, BW, UP, OK⟩ := hrel
          have HK := mz hk
          clear hk
          by_cases hlt : k < ws.length
          · have hltz : (k : Int) < (ws.length : Int) := by omega
            obtain ⟨ad, e1, hx⟩ := Kd.at_string (Kd.C_below HR.out BW.out) (k : Int) (by omega) hltz
            subst e1
            rw [rdOf_get _ ws k hlt, Int.toNat_natCast] at hx
            have hsz := (HSZ.out ws[k] (List.getElem_mem hlt)).2.1
            have UP2 := UP.out
            rw [List.drop_eq_getElem_cons hlt] at UP2
            clear UP
            generalize ws[k] = wk at hx hsz UP2
            have hwz : (0 : Int) ≤ (wk.size : Int) := by omega
            have hwz2 : (wk.size : Int) ≤ 80 := by omega
            obtain ⟨s2, hs2⟩ : ∃ s2, s + (1 + (wk.size : Int)) = s2 := ⟨_, rfl⟩
            by_cases hov : W < s2
            · have hfin : List.replicate m zB ++ cur :: tabB W r = List.replicate m zB ++ tabB W (ws.drop m) := by
                have e := UP2
                rw [show (tabB W r).drop jj = (tabB W r).getD jj zB :: (tabB W r).drop (jj + 1) from tab_at W r jj (by have := HK.out; have := HRL.out; omega), upB, if_pos (by omega)] at e
                rw [HDM.out, tabB, ← upB_dn W wm r (tabB W r) (by intro h; have := tabB_length W r; rw [h] at this; simp at this) (HWM.out) zB, e]
              have RW3 := RW.out
              rw [hfin] at RW3
              have RW4 := mz RW3
              clear RW3 hfin UP2 RW OK
              go_wp2_with fail
              go_roundg (m + 1)
              case measure => omega
              case rel => exact ⟨m, (m : Int) - 1, by omega, by omega, (by first | go_num | rfl), rfl, ⟨RW4.out⟩, ⟨BW.out⟩⟩
            · have hov2 : s2 ≤ W := by omega
              have hs20 : 0 ≤ s2 := by omega
              have hjj : jj ≤ r.length := by have := HK.out; have := HRL.out; omega
              have hTl := tabB_length W r
              have hlen : (List.replicate m zB ++ cur :: tabB W r).length = ws.length + 1 := by simp only [List.length_append, List.length_replicate, List.length_cons, hTl]; omega
              have hgk1 : (List.replicate m zB ++ cur :: tabB W r).getD (k + 1) zB = (tabB W r).getD jj zB := by
                rw [HK.out, List.getD_eq_getElem?_getD, List.getD_eq_getElem?_getD, List.getElem?_append_right (by rw [List.length_replicate]; omega), List.length_replicate, show m + jj + 1 - m = jj + 1 by omega, List.getElem?_cons_succ]
              have hgm : (List.replicate m zB ++ cur :: tabB W r).getD m zB = cur := by
                rw [List.getD_eq_getElem?_getD, List.getElem?_append_right (by rw [List.length_replicate]; omega), List.length_replicate, Nat.sub_self]; rfl
              have hset : ∀ x : Bst, (List.replicate m zB ++ cur :: tabB W r).set m x = List.replicate m zB ++ x :: tabB W r := by intro x; rw [List.set_append_right _ _ (by rw [List.length_replicate]; omega), List.length_replicate, Nat.sub_self]; rfl
              have hup := UP2
              rw [tab_at W r jj hjj, upB, hs2, if_neg (by omega)] at hup
              have hbok := tabB_ok W hW80 r ((tabB W r).getD jj zB) (by rw [List.getD_eq_getElem?_getD, List.getElem?_eq_getElem (by omega)]; exact List.getElem_mem _)
              have hxok := xB_ok (w := wk) (r := ws.drop (k + 1)) (s := s) (j := (jj : Int)) hbok hW80 (by omega) hs0
              obtain ⟨p0, p1, p2, _, _, _⟩ := RW.out.get (k + 1) (by rw [hlen]; omega)
              obtain ⟨q0, q1, q2, qf0, qf1, qf2⟩ := RW.out.get m (by rw [hlen]; omega)
              rw [hgk1] at p0 p1 p2
              rw [hgm] at q0 q1 q2
              generalize (tabB W r).getD jj zB = b at p0 p1 p2 hup hbok hxok
              generalize hxd : xB W wk (ws.drop (k + 1)) b s (jj : Int) = x at hup hxok
              have hq := sqB_bd (x := W - s2) (by omega) (by omega)
              have hxc : x.c = if ws.drop (k + 1) = [] then b.c else b.c + sqB (W - s2) := by rw [← hxd, ← hs2]; rfl
              have hxl : x.l = b.l + 1 := by rw [← hxd]; rfl
              have hxn : x.n = (jj : Int) + 1 := by rw [← hxd]; rfl
              have hK := HK.out
              have hkn : (k : Int) + 1 - (m : Int) = x.n := by rw [hxn]; omega
              have hk1n : ((k : Int) + 1).toNat = k + 1 := by omega
              obtain ⟨bo1, bo2, bo3, bo4⟩ := hbok
              obtain ⟨xo1, xo2, xo3, xo4⟩ := hxok
              obtain ⟨co1, co2, co3, co4⟩ := OK.out
              have hrr : r.length ≤ 60 := by have := HRL.out; omega
              have HUP := mz hup
              have HSET := mz hset
              have HXC := mz hxc
              have HXL := mz hxl
              have HXN := mz hxn
              have HLEN := mz hlen
              have HJJ := mz hjj
              clear hup hset hxc hxl hxn hlen hjj hgk1 hgm hTl hxd UP2 hK
              go_upto_region 15 with ((with_reducible refine gate_dst (N := 12) rfl ?_); refine bx 12 #[.int .i64 0, .int .i64 0, .int .i64 0] 44 ?_; intro g12 hg w_ hbox hb; have HBZ := mz hb; have BZ := mz hbox; have GX : Aside0 (wr.heap.size ≤ g12) := ⟨by rw [hg]; first | exact Nat.le_refl _ | simp⟩; obtain ⟨z0, z1, z2⟩ := cells3 hbox; obtain ⟨f0, f1, f2⟩ := froz3 hbox; clear hb hbox hg)
              obtain ⟨hbk, hbb⟩ := fill3 (v0 := .int .i64 b.c) (v1 := .int .i64 b.l) (v2 := .int .i64 b.n) HBZ.out GX.out BZ.out
              clear z0 z1 z2 f0 f1 f2 BZ HBZ
              generalize ((w_.setCell ⟨g12, 0, none⟩ (.int .i64 b.c)).setCell ⟨g12, 1, none⟩ (.int .i64 b.l)).setCell ⟨g12, 2, none⟩ (.int .i64 b.n) = w12 at hbk hbb ⊢
              have B12 := mz hbb
              have K12 := mz hbk
              clear hbk hbb GX p0 p1 p2
              obtain ⟨y0, y1, y2⟩ := cells3 K12.out
              go_upto_region 16 with ((with_reducible refine gate_dst (N := 13) rfl ?_); refine bx 13 #[.int .i64 0, .int .i64 0, .int .i64 0] 44 ?_; intro g13 hg w_ hbox hb; have HBZ := mz hb; have BZ := mz hbox; have GX : Aside0 (w12.heap.size ≤ g13) := ⟨by rw [hg]; first | exact Nat.le_refl _ | simp⟩; obtain ⟨z0, z1, z2⟩ := cells3 hbox; obtain ⟨f0, f1, f2⟩ := froz3 hbox; clear hb hbox hg)
              obtain ⟨hbk, hbb⟩ := fill3 (v0 := .int .i64 b.c) (v1 := .int .i64 (b.l + 1)) (v2 := .int .i64 x.n) HBZ.out GX.out BZ.out
              clear z0 z1 z2 f0 f1 f2 BZ HBZ
              generalize ((w_.setCell ⟨g13, 0, none⟩ (.int .i64 b.c)).setCell ⟨g13, 1, none⟩ (.int .i64 (b.l + 1))).setCell ⟨g13, 2, none⟩ (.int .i64 x.n) = w13 at hbk hbb ⊢
              have B13 := mz hbb
              have K13 := mz hbk
              have G13 := GX
              clear hbk hbb GX y0 y1 y2
              obtain ⟨y0, y1, y2⟩ := cells3 K13.out
              obtain ⟨f0, f1, f2⟩ := froz3 K13.out
              have hsq0 : 0 ≤ (W - s2) * (W - s2) := hq.1
              have hsq1 : (W - s2) * (W - s2) ≤ 6400 := hq.2
              go_upto_if 67 with (fail)
              go_cut [10] (fun z wc => z = .int .i64 s2 ∧ Aside0 (wc.heap[g13]? = some (.cells #[.int .i64 x.c, .int .i64 x.l, .int .i64 x.n] 44 (0, 0))) ∧ Aside0 (Below w12.heap.size w12 wc))
              case first =>
                by_cases hla : (k : Int) + 1 < (ws.length : Int)
                · have hxc2 : Aside0 (b.c + (W - s2) * (W - s2) = x.c) := ⟨by rw [HXC.out, if_neg (by intro h; have := congrArg List.length h; rw [List.length_drop] at this; simp at this; omega)]; rfl⟩
                  go_wp2_with fail
                  go_meet
                  case rel => exact ⟨rfl, ⟨by rw [← hxc2.out, HXL.out]; exact blk_put (cs := #[.int .i64 b.c, .int .i64 (b.l + 1), .int .i64 x.n]) K13.out 0 _ rfl⟩, ⟨below_set B13.out G13.out⟩⟩
                · have hxc2 : Aside0 (b.c = x.c) := ⟨by rw [HXC.out, if_pos (List.drop_eq_nil_of_le (by omega))]⟩
                  go_wp2_with fail
                  go_meet
                  case rel => exact ⟨rfl, ⟨by rw [← hxc2.out, HXL.out]; exact K13.out⟩, B13⟩
              case rest =>
                clear y0 y1 y2 f0 f1 f2 K13 B13 hsq0 hsq1 q0 q1 q2 qf0 qf1 qf2
                obtain ⟨rfl, K13, B13⟩ := hcut
                have RWc := mz (RW.out.below (below_step B12.out B13.out))
                obtain ⟨q0, q1, q2, qf0, qf1, qf2⟩ := RWc.out.get m (by rw [HLEN.out]; omega)
                rw [List.getD_eq_getElem?_getD, List.getElem?_append_right (by rw [List.length_replicate]; exact Nat.le_refl m), List.length_replicate, Nat.sub_self, List.getElem?_cons_zero, Option.getD_some] at q0 q1 q2
                go_upto_region 19 with ((with_reducible refine gate_dst (N := 14) rfl ?_); refine bx 14 #[.int .i64 0, .int .i64 0, .int .i64 0] 44 ?_; intro g14 hg w_ hbox hb; have HBZ := mz hb; have BZ := mz hbox; have GX : Aside0 (wc.heap.size ≤ g14) := ⟨by rw [hg]; first | exact Nat.le_refl _ | simp⟩; obtain ⟨z0, z1, z2⟩ := cells3 hbox; obtain ⟨f0, f1, f2⟩ := froz3 hbox; clear hb hbox hg)
                obtain ⟨hbk, hbb⟩ := fill3 (v0 := .int .i64 cur.c) (v1 := .int .i64 cur.l) (v2 := .int .i64 cur.n) HBZ.out GX.out BZ.out
                clear z0 z1 z2 f0 f1 f2 BZ HBZ
                generalize ((w_.setCell ⟨g14, 0, none⟩ (.int .i64 cur.c)).setCell ⟨g14, 1, none⟩ (.int .i64 cur.l)).setCell ⟨g14, 2, none⟩ (.int .i64 cur.n) = w14 at hbk hbb ⊢
                have B14 := mz hbb
                have K14 := mz hbk
                have K13b := mz (blk_below K13.out hbb)
                have RW14 := mz (RWc.out.below hbb)
                have BW14 := mz (below_step BW.out (below_step B12.out (below_step B13.out hbb)))
                clear hbk hbb GX q0 q1 q2 qf0 qf1 qf2
                obtain ⟨y0, y1, y2⟩ := cells3 K13b.out
                obtain ⟨u0, u1, u2⟩ := cells3 K14.out
                obtain ⟨q0, q1, q2, qf0, qf1, qf2⟩ := RW14.out.get m (by rw [HLEN.out]; omega)
                clear K12 K14 K13b B12 B13 B14 K13 RWc
                cases hkm : ((k : Int) == (m : Int)) with
                | true =>
                  have UPN : Aside0 (upB W (wm :: r) (tabB W r) (-1) 0 zB = upB W (ws.drop (k + 1)) ((tabB W r).drop (jj + 1)) s2 ((jj + 1 : Nat) : Int) x) := ⟨by have e := HUP.out; rw [if_pos (by left; have := HK.out; have h := of_decide_eq_true (by simpa using hkm : decide ((k : Int) = (m : Int)) = true); omega)] at e; exact e⟩
                  go_wp2_with fail
                  have hput := (RW14.out.put m (by rw [HLEN.out]; omega) x).1
                  rw [HSET.out] at hput
                  have hbb := below_set (j := m * 3 + 2) (v := .int .i64 x.n) (below_set (j := m * 3 + 1) (v := .int .i64 x.l) (below_set (j := m * 3) (v := .int .i64 x.c) BW14.out RW14.out.lo) RW14.out.lo) RW14.out.lo
                  have HPUT := mz hput
                  have HBB := mz hbb
                  clear hput hbb
                  go_roundg (ws.length - (k + 1))
                  case measure => omega
                  case rel => exact ⟨jj + 1, k + 1, s2, x, by have := HK.out; omega, by omega, by omega, rfl, (by first | go_num | (congr 1; unfold wrap64; omega)), by omega, by omega, ⟨HPUT.out⟩, ⟨HBB.out⟩, ⟨UPN.out⟩, ⟨⟨xo1, xo2, xo3, xo4⟩⟩⟩
                | false =>
                  have hkm2 : ¬ (jj : Int) = 0 := by
                    have h1 : ¬ (k : Int) = (m : Int) := by simpa using hkm
                    have := HK.out
                    omega
                  by_cases c1 : x.c < cur.c
                  · skip
                    have UPN : Aside0 (upB W (wm :: r) (tabB W r) (-1) 0 zB = upB W (ws.drop (k + 1)) ((tabB W r).drop (jj + 1)) s2 ((jj + 1 : Nat) : Int) x) := ⟨by have e := HUP.out; rw [if_pos (by right; simp [leB, c1])] at e; exact e⟩
                    go_wp2_with fail
                    have hput := (RW14.out.put m (by rw [HLEN.out]; omega) x).1
                    rw [HSET.out] at hput
                    have hbb := below_set (j := m * 3 + 2) (v := .int .i64 x.n) (below_set (j := m * 3 + 1) (v := .int .i64 x.l) (below_set (j := m * 3) (v := .int .i64 x.c) BW14.out RW14.out.lo) RW14.out.lo) RW14.out.lo
                    have HPUT := mz hput
                    have HBB := mz hbb
                    clear hput hbb
                    go_roundg (ws.length - (k + 1))
                    case measure => omega
                    case rel => exact ⟨jj + 1, k + 1, s2, x, by have := HK.out; omega, by omega, by omega, rfl, (by first | go_num | (congr 1; unfold wrap64; omega)), by omega, by omega, ⟨HPUT.out⟩, ⟨HBB.out⟩, ⟨UPN.out⟩, ⟨⟨xo1, xo2, xo3, xo4⟩⟩⟩
                  cases c2 : (x.c == cur.c) with
                  | false =>
                    have UPN : Aside0 (upB W (wm :: r) (tabB W r) (-1) 0 zB = upB W (ws.drop (k + 1)) ((tabB W r).drop (jj + 1)) s2 ((jj + 1 : Nat) : Int) cur) := ⟨by have e := HUP.out; rw [if_neg (by rintro (h | h); exact hkm2 h; have h1 : ¬ x.c = cur.c := (by simpa using c2); simp [leB, c1, h1] at h)] at e; exact e⟩
                    go_wp2_with fail
                    go_roundg (ws.length - (k + 1))
                    case measure => omega
                    case rel => exact ⟨jj + 1, k + 1, s2, cur, by have := HK.out; omega, by omega, by omega, rfl, (by first | go_num | (congr 1; unfold wrap64; omega)), by omega, by omega, ⟨RW14.out⟩, ⟨BW14.out⟩, ⟨UPN.out⟩, ⟨⟨co1, co2, co3, co4⟩⟩⟩
                  | true =>
                    have c2e : x.c = cur.c := by simpa using c2
                    have C2E := mz c2e
                    clear c2e
                    by_cases c3 : x.l ≤ cur.l
                    · skip
                      have UPN : Aside0 (upB W (wm :: r) (tabB W r) (-1) 0 zB = upB W (ws.drop (k + 1)) ((tabB W r).drop (jj + 1)) s2 ((jj + 1 : Nat) : Int) x) := ⟨by have e := HUP.out; rw [if_pos (by right; simp [leB, c3, C2E.out])] at e; exact e⟩
                      go_wp2_with fail
                      have hput := (RW14.out.put m (by rw [HLEN.out]; omega) x).1
                      rw [HSET.out] at hput
                      have hbb := below_set (j := m * 3 + 2) (v := .int .i64 x.n) (below_set (j := m * 3 + 1) (v := .int .i64 x.l) (below_set (j := m * 3) (v := .int .i64 x.c) BW14.out RW14.out.lo) RW14.out.lo) RW14.out.lo
                      have HPUT := mz hput
                      have HBB := mz hbb
                      clear hput hbb
                      go_roundg (ws.length - (k + 1))
                      case measure => omega
                      case rel => exact ⟨jj + 1, k + 1, s2, x, by have := HK.out; omega, by omega, by omega, rfl, (by first | go_num | (congr 1; unfold wrap64; omega)), by omega, by omega, ⟨HPUT.out⟩, ⟨HBB.out⟩, ⟨UPN.out⟩, ⟨⟨xo1, xo2, xo3, xo4⟩⟩⟩
                    · skip
                      have UPN : Aside0 (upB W (wm :: r) (tabB W r) (-1) 0 zB = upB W (ws.drop (k + 1)) ((tabB W r).drop (jj + 1)) s2 ((jj + 1 : Nat) : Int) cur) := ⟨by have e := HUP.out; rw [if_neg (by rintro (h | h); exact hkm2 h; simp [leB, c3, C2E.out] at h)] at e; exact e⟩
                      go_wp2_with fail
                      go_roundg (ws.length - (k + 1))
                      case measure => omega
                      case rel => exact ⟨jj + 1, k + 1, s2, cur, by have := HK.out; omega, by omega, by omega, rfl, (by first | go_num | (congr 1; unfold wrap64; omega)), by omega, by omega, ⟨RW14.out⟩, ⟨BW14.out⟩, ⟨UPN.out⟩, ⟨⟨co1, co2, co3, co4⟩⟩⟩
          · have hkn : k = ws.length := by omega
            subst hkn
            have hfin : List.replicate m zB ++ cur :: tabB W r = List.replicate m zB ++ tabB W (ws.drop m) := by
              have e := UP.out
              rw [List.drop_eq_nil_of_le (Nat.le_refl _), show ∀ t s j c, upB W [] t s j c = c from fun _ _ _ _ => rfl] at e
              rw [HDM.out, tabB, ← upB_dn W wm r (tabB W r) (by intro h; have := tabB_length W r; rw [h] at this; simp at this) (HWM.out) zB, e]
            have RW3 := RW.out
            rw [hfin] at RW3
            have RW4 := mz RW3
            clear RW3 hfin UP RW OK
            go_wp2_with fail
            go_roundg (m + 1)
            case measure => omega
            case rel => exact ⟨m, (m : Int) - 1, by omega, by omega, (by first | go_num | rfl), rfl, ⟨RW4.out⟩, ⟨BW.out⟩⟩
      | zero =>
        have hz0 : z = -1 := by omega
        subst hz0
        clear hz
        have RW0 := RW.out
        simp only [List.replicate_zero, List.nil_append, List.drop_zero] at RW0
        have hTl := tabB_length W ws
        obtain ⟨T, hT⟩ : ∃ T, T = tabB W ws := ⟨_, rfl⟩
        have hwd : ∀ i, i < ws.length → 1 ≤ (T.getD i zB).n ∧ (T.getD i zB).n ≤ (ws.length : Int) - i := by rw [hT]; exact fun i hi => tab_words W ws (fun s h => (HSZ.out s h).2.2) i hi
        rw [← hT] at RW0 hTl
        have RWT := mz RW0
        have HTT := mz hT
        have HWD := mz hwd
        have HTL := mz hTl
        clear RW0 RW hT hwd hTl
        go_wp2_with fail
        go_loopg [15, 16] (ws.length) (fun gg z15 z16 wr => ∃ (v : Value) (i kf : Nat) (o : List ByteArray), v = z15 ∧ z16 = .int .i64 (i : Int) ∧ i ≤ ws.length ∧ ws.length - i ≤ gg ∧ ws.length - i < kf ∧ o.length ≤ i ∧ Aside0 (Kd.R Kd.string 9 wr w.heap.size (fun _ => True) v o) ∧ Aside0 (RowI wr w.heap.size g cap T) ∧ Aside0 (Below w.heap.size w wr) ∧ Aside0 (linesB ws T (ws.length + 1) 0 = o ++ linesB ws T kf i))
        case atStart => exact ⟨_, 0, ws.length + 1, [], rfl, rfl, Nat.zero_le _, by omega, by omega, by simp, ⟨Kd.R_nil _ _ _ _ _⟩, RWT, BW, ⟨rfl⟩⟩
        case round =>
          clear RWT BW
          obtain ⟨v, i, kf, o, rfl, rfl, hi, hgi, hkf, hol, RO, RWT, BW, LN⟩ := hrel
          by_cases hlt : i < ws.length
          · have hltz : (i : Int) < (ws.length : Int) := by omega
            obtain ⟨p0, p1, p2, _, _, _⟩ := RWT.out.get i (by rw [HTL.out]; omega)
            have hw2 := HWD.out i hlt
            obtain ⟨kf1, rfl⟩ : ∃ q, kf = q + 1 := ⟨kf - 1, by omega⟩
            have hln := LN.out
            rw [show linesB ws T (kf1 + 1) i = joinB ((ws.take (i + (T.getD i zB).n.toNat)).drop i) :: linesB ws T kf1 (i + (T.getD i zB).n.toNat) from by rw [linesB, if_pos hlt]] at hln
            generalize hnn : (T.getD i zB).n = nn at p2 hw2 hln
            obtain ⟨q, hq⟩ : ∃ q : Nat, nn = (q : Int) := ⟨nn.toNat, by omega⟩
            subst hq
            rw [Int.toNat_natCast] at hln
            have HLN := mz hln
            have HNN := mz hnn
            clear hln hnn LN
            have hq1 : 1 ≤ q := by omega
            have hiq : i + q ≤ ws.length := by omega
            have hiqc : i + q ≤ c := Nat.le_trans hiq HC.out
            obtain ⟨A', hA'⟩ : ∃ A', A' = A.map (·.add (i * 1)) := ⟨_, rfl⟩
            obtain ⟨l', hl'⟩ : ∃ l', l' = (ws.take (i + q)).drop i := ⟨_, rfl⟩
            have hll : l'.length = q := by rw [hl', List.length_drop, List.length_take]; omega
            have CD : Aside0 (Kd.C Kd.string w A' l'.length l') := ⟨by rw [hA', hl']; have := Kd.C_mid (lo := i) (hi := i + q) (c := c) HR.out (by omega) hiq HC.out; rwa [if_neg (by omega)] at this⟩
            have hls : ∀ s ∈ l', s.size ≤ 80 := fun s h => (HSZ.out s (by rw [hl'] at h; exact List.mem_of_mem_take (List.mem_of_mem_drop h))).2.1
            rw [← hl'] at HLN
            have hj : ∀ W' : World, Below w.heap.size w W' → Calls Try.prog 23 #[.slice (Option.map (fun x => x.add i) A) q (c - i), .string ⟨#[32]⟩] W' fun e w' => e = .returned (.string (joinB l')) ∧ Below W'.heap.size W' w' := fun W' hb => by
              have := joinC A' (c - i) l' W' (Kd.C_below CD.out hb) (by omega) (by omega) hls (by intro h; rw [h] at hll; simp at hll; omega)
              rw [hll, hA'] at this
              simpa only [Nat.mul_one] using this
            have HJ := mz hj
            clear hj
            have HLS := mz hls
            have HLL := mz hll
            have HAP := mz hA'
            clear hA' hl' hls hll
            have hiz : (0 : Int) ≤ (i : Int) := by omega
            have hiqz : (i : Int) + (q : Int) ≤ (c : Int) := by omega
            have hiq2 : ((i : Int) + (q : Int)).toNat = i + q := by omega
            go_wp2_with fail
            refine (HJ.out _ BW.out).mono ?_
            rintro e w3 ⟨rfl, hb⟩
            have BW3 := mz (below_step BW.out hb)
            have RO3 := mz (Kd.R_below RO.out hb)
            have RT3 := mz (RWT.out.below hb)
            clear hb p0 p1 p2
            go_wp2_with ((with_reducible refine gate_builtin (b := .append) (xs := #[.tmp 121, .tmp 133]) rfl ?_); at_builtin; refine Kd.R_append Kd.string (w0 := w) w.heap.size rfl (.tmp 121) (.tmp 133) 23 9 (.string ⟨#[]⟩) 16 rfl Try.underlying23 info9 rfl (by decide) (by omega) _ o (joinB l') [.string (joinB l')] (fun _ => True) (fun _ => False) rfl rfl ?aP (fun _ hk => hk.elim) ?aF ?aO ?aB ?aS ?aL ?_; (case aP => exact rfl); (case aB => exact BW3.out); (case aF => exact (fun _ _ => trivial)); (case aO => exact RO3.out); (case aS => exact BW3.out.size); (case aL => omega); intro v4 w4 ho hb hg hat; have RO4 := mz ho; have BW4 := mz hb; have RT4 : Aside0 (RowI w4 w.heap.size g cap T) := ⟨Kd.R_over' (show Kd.R k44 44 w3 w.heap.size (fun k => k = g) _ _ from RT3.out) (Kd.R_typed RO3.out) (by decide) hg⟩; obtain ⟨p0, p1, p2, _, _, _⟩ := RT4.out.get i (by rw [HTL.out]; omega); rw [HNN.out] at p2; clear ho hb hg hat)
            go_roundg (ws.length - (i + q))
            case measure => omega
            case rel => exact ⟨_, i + q, kf1, o ++ [joinB l'], rfl, (by first | go_num | (congr 1; unfold wrap64; omega)), by omega, by omega, by omega, (by rw [List.length_append, List.length_singleton]; omega), RO4, RT4, BW4, ⟨by rw [HLN.out, List.append_assoc]; rfl⟩⟩
          · have hie : i = ws.length := by omega
            subst hie
            have hlz : linesB ws T kf ws.length = [] := by cases kf with | zero => rfl | succ q => rw [linesB, if_neg (by omega)]
            have HO : Aside0 (linesB ws T (ws.length + 1) 0 = o) := ⟨by rw [LN.out, hlz, List.append_nil]⟩
            clear LN hlz
            obtain ⟨p0, _, _, _, _, _⟩ := RWT.out.get 0 (by rw [HTL.out]; omega)
            rw [Nat.zero_mul] at p0
            generalize hcc : (T.getD 0 zB).c = cc at p0
            have HCC := mz hcc
            clear hcc RWT
            go_wp2_with fail
            refine wp_region_held_drew (S := fun W' => W'.cell? ⟨g, 0, none⟩ = some (.int .i64 cc) ∧ Aside0 (Kd.R Kd.string 9 W' w.heap.size (fun _ => True) v o) ∧ Aside0 (Below w.heap.size w W')) (by kernel_rfl) ⟨p0, ⟨Kd.R_drew RO.out⟩, ⟨below_drew1 BW.out⟩⟩ (fun Y => ?_)
            have F : ∀ W' : World, (W'.cell? ⟨g, 0, none⟩ = some (.int .i64 cc) ∧ Aside0 (Kd.R Kd.string 9 W' w.heap.size (fun _ => True) v o) ∧ Aside0 (Below w.heap.size w W')) → W'.cell? ⟨g, 0, none⟩ = some (.int .i64 cc) := fun _ h => h.1
            have HFF := mz F
            clear F p0 RO BW
            skip
            refine tF 0 HFF.out ?_
            refine tF 1 HFF.out ?_
            refine tF 2 HFF.out ?_
            refine tF 3 HFF.out ?_
            refine tF 4 HFF.out ?_
            refine tF 5 HFF.out ?_
            refine tF 6 HFF.out ?_
            refine tF 7 HFF.out ?_
            refine wpAnyH_done (by kernel_rfl) ?_ _
            clear HFF
            go_wp2_with fail
            go_ret3
            have e1 := HO.out
            rw [HTT.out] at e1
            rw [e1, ← HTT.out, HCC.out]
            exact ⟨v, rfl, Y.2.1.out, Y.2.2.out⟩

def impl_BestLines.f (l0 : List ByteArray) (a1 : Int) : Option (List ByteArray × Int × Bool) := if (l0.all (fun s => decide (s.size ≤ maxLen))) = true then some (bestB l0 a1) else none
theorem impl_BestLines.calls (A0 : Option Addr) (c0 : Nat) (l0 : List ByteArray) (a1 : Int) (r1 : List ByteArray) (r2 : Int) (r3 : Bool) (w : World) (hr0 : Kd.C Kd.string w A0 l0.length l0) (hc0 : l0.length ≤ c0) (h : impl_BestLines.f l0 a1 = some (r1, r2, r3)) :
    Calls Try.prog 6 #[.slice A0 l0.length c0, .int .i64 a1] w fun e w' => ∃ v0_ : Value, e = .returned (.tuple #[v0_, .int .i64 r2, .bool r3]) ∧ Kd.R Kd.string 9 w' w.heap.size (fun _ => True) v0_ r1 ∧ Below w.heap.size w w' := by
  unfold impl_BestLines.f at h
  by_cases hs : (l0.all (fun s => decide (s.size ≤ maxLen))) = true
  · rw [if_pos hs] at h
    simp only [Option.some.injEq] at h
    skip
    have := bestLines_walk A0 c0 l0 a1 w hr0 hc0 (fun s h2 => of_decide_eq_true (List.all_eq_true.1 hs s h2))
    rw [h] at this
    exact this
  · rw [if_neg hs] at h; exact absurd h (by simp)
theorem impl_BestLines.val (l0 : List ByteArray) (a1 : Int) (hs : ∀ s ∈ l0, s.size ≤ maxLen) : impl_BestLines.f l0 a1 = some (bestB l0 a1) := by
  unfold impl_BestLines.f
  rw [if_pos (by exact List.all_eq_true.2 fun s h => decide_eq_true (hs s h))]
section
attribute [local go_sem] max2_int min2_int max_two min_two max_three min_three max_four min_four
mutual
def spec_BreakAt.l0 : Nat → List ByteArray → List Int → Int → List ByteArray → Int → List Int → Int → Int → Option (List ByteArray × Bool)
  | 0, _, _, _, _, _, _, _, _ => none
  | k + 1, x0, x1, x2, x8, x9, x18, x19, x20 => if x20 < x19 then (if 0 ≤ x20 then (if x20 < (x18.length : Int) then ((spec_l1In.f (rd x18 x20) 1 (wrap64 ((x0.length : Int) - 1))).bind fun t103 => (if t103 = true then (if x20 > 0 then (if 0 ≤ (wrap64 (x20 - 1)) then (if (wrap64 (x20 - 1)) < (x1.length : Int) then (if (rd x1 (wrap64 (x20 - 1))) ≥ (rd x18 x20) then (some (([] : List ByteArray), false)) else (if 0 ≤ x9 then (if x9 ≤ (rd x18 x20) then (if (rd x18 x20) ≤ (x0.length : Int) then ((spec_l13Join.f k ((x0.take ((rd x18 x20) : Int).toNat).drop (x9 : Int).toNat)).bind fun t106 => (if x8.length < 8796093022208 then (spec_BreakAt.l0 k x0 x1 x2 (x8 ++ [t106]) (rd x18 x20) x18 x19 (wrap64 (x20 + 1))) else (none))) else (none)) else (none)) else (none))) else (none)) else (none)) else (if 0 ≤ x9 then (if x9 ≤ (rd x18 x20) then (if (rd x18 x20) ≤ (x0.length : Int) then ((spec_l13Join.f k ((x0.take ((rd x18 x20) : Int).toNat).drop (x9 : Int).toNat)).bind fun t111 => (if x8.length < 8796093022208 then (spec_BreakAt.l0 k x0 x1 x2 (x8 ++ [t111]) (rd x18 x20) x18 x19 (wrap64 (x20 + 1))) else (none))) else (none)) else (none)) else (none))) else (some (([] : List ByteArray), false)))) else (none)) else (none)) else (if x9 < (x0.length : Int) then (if 0 ≤ x9 then (if x9 ≤ (x0.length : Int) then ((spec_l13Join.f k (x0.drop (x9 : Int).toNat)).bind fun t116 => (if x8.length < 8796093022208 then (spec_BreakAt.j1 k x2 (x8 ++ [t116])) else (none))) else (none)) else (none)) else (spec_BreakAt.j1 k x2 x8))
def spec_BreakAt.j1 : Nat → Int → List ByteArray → Option (List ByteArray × Bool)
  | 0, _, _ => none
  | k + 1, x2, x8 => spec_BreakAt.l1 k x2 x8 x8 (x8.length : Int) 0
def spec_BreakAt.l1 : Nat → Int → List ByteArray → List ByteArray → Int → Int → Option (List ByteArray × Bool)
  | 0, _, _, _, _, _ => none
  | k + 1, x2, x8, x65, x66, x67 => if x67 < x66 then (if 0 ≤ x67 then (if x67 < (x65.length : Int) then (if ((rdOf ByteArray.empty x65 x67).size : Int) > x2 then (some (([] : List ByteArray), false)) else (spec_BreakAt.l1 k x2 x8 x65 x66 (wrap64 (x67 + 1)))) else (none)) else (none)) else (some (x8, true))
end
def spec_BreakAt.f (k : Nat) (l0 : List ByteArray) (l1 : List Int) (a2 : Int) : Option (List ByteArray × Bool) := (spec_l13Said.f k l0 a2).bind fun t101 => (if t101 = true then (spec_BreakAt.l0 k l0 l1 a2 ([] : List ByteArray) 0 l1 (l1.length : Int) 0) else (some (([] : List ByteArray), false)))
set_option maxHeartbeats 8000000 in
set_option maxRecDepth 100000 in
theorem spec_BreakAt.calls (k : Nat) (A0 : Option Addr) (c0 : Nat) (l0 : List ByteArray) (A1 : Option Addr) (c1 : Nat) (l1 : List Int) (a2 : Int) (r1 : List ByteArray) (r2 : Bool) (w : World) (hr0 : Kd.C Kd.string w A0 l0.length l0) (hc0 : l0.length ≤ c0) (hr1 : Kd.C (Kd.int .i64) w A1 l1.length l1) (hc1 : l1.length ≤ c1) (h : spec_BreakAt.f k l0 l1 a2 = some (r1, r2)) :
    Calls Try.prog 13 #[.slice A0 l0.length c0, .slice A1 l1.length c1, .int .i64 a2] w fun e w' => ∃ v0_ : Value, e = .returned (.tuple #[v0_, .bool r2]) ∧ Kd.R Kd.string 9 w' w.heap.size (fun _ => True) v0_ r1 ∧ Below w.heap.size w w' := by
  have HR0 := mz hr0
  have HC0 := mz hc0
  clear hr0 hc0
  have HR1 := mz hr1
  have HC1 := mz hc1
  clear hr1 hc1
  have HB := mz (Below.refl w.heap.size w)
  have H : ((spec_l13Said.f k l0 a2).bind fun t101 => (if t101 = true then (spec_BreakAt.l0 k l0 l1 a2 ([] : List ByteArray) 0 l1 (l1.length : Int) 0) else (some (([] : List ByteArray), false)))) = some (r1, r2) := h
  clear h
  replace H := be0_ H
  obtain ⟨t101, A40, H⟩ := H
  replace H : (if t101 = true then (spec_BreakAt.l0 k l0 l1 a2 ([] : List ByteArray) 0 l1 (l1.length : Int) 0) else (some (([] : List ByteArray), false))) = some (r1, r2) := H
  have A4 := mz A40
  clear A40
  by_cases c5 : t101 = true
  · subst c5
    have H1 : (spec_BreakAt.l0 k l0 l1 a2 ([] : List ByteArray) 0 l1 (l1.length : Int) 0) = some (r1, r2) := by rw [if_pos rfl] at H; exact H
    clear H
    have H := H1
    clear H1
    have H' := mz H
    clear H
    go_enter Try.func13, Try.ntmps13
    go_wp2_with (first | ((with_reducible refine gate_callee (f := 24) rfl ?_); refine goesL_ (some 16) rfl rfl Try.func24 (by kernel_rfl) rfl #[.slice A0 l0.length c0, .int .i64 a2] rfl (by (try simp only [List.map_toArray, List.map_cons, List.map_nil]); first | done | rfl | (simp only [List.length_drop, List.length_take]; rfl)) ?_; (with_reducible refine (spec_l13Said.calls k _ _ l0 a2 true _ ?side1 ?side2 A4.out).mono ?_); (case side1 => repeat (first | exact HR0.out | (with_reducible refine Kd.C_alloc ?_ _) | (with_reducible refine Kd.C_drewN ?_ _) | (with_reducible refine Kd.C_drew ?_))); (case side2 => exact HC0.out); rintro e w' ⟨rfl, ⟨nd, rfl⟩⟩; refine ⟨_, rfl, ?_⟩))
    go_loopg [8, 9, 20] k (fun kq v8 v9 v20 w' => ∃ (x8_1 : List ByteArray) (x9_1 : Int) (x20_1 : Int), v9 = .int .i64 x9_1 ∧ v20 = .int .i64 x20_1 ∧ Aside0 (spec_BreakAt.l0 kq l0 l1 a2 x8_1 x9_1 l1 (l1.length : Int) x20_1 = some (r1, r2)) ∧ Aside0 (kq ≤ k) ∧ Aside0 (Kd.R Kd.string 9 w' w.heap.size (fun _ => True) v8 x8_1) ∧ Aside0 (Below w.heap.size w w'))
    case atStart => exact ⟨(([] : List ByteArray)), (0), (0), (by first | rfl | (simp; done) | (simp [*]; done)), (by first | rfl | (simp; done) | (simp [*]; done)), H', ⟨Nat.le_refl _⟩, ⟨by first | exact Kd.R_nil _ _ _ _ _ | exact Kd.N_nil _ _ _ _ _ | exact Kd.V_nil _ _ _ _ _ | exact Kd.Q_nil _ _ _ _ _ | exact Kd.S_nil _ _ _ _ _⟩, ⟨by repeat (first | (with_reducible first | exact HB.out | apply below_alloc | apply pw_below_drewN | apply below_drew1) | exact HB.out)⟩⟩
    case round =>
      clear H'
      try clear c1
      try clear c2
      try clear p2
      try clear c5
      obtain ⟨x8_1, x9_1, x20_1, rfl, rfl, HA, HK1, HO_8, HB⟩ := hrel
      cases gk with
      | zero => exact absurd HA.out (by simp [spec_BreakAt.l0])
      | succ k1 =>
        have H := HA.out
        clear HA
        simp only [spec_BreakAt.l0] at H
        by_cases c6 : x20_1 < (l1.length : Int)
        · rw [if_pos c6] at H
          have c6b0 : decide (x20_1 < (l1.length : Int)) = true := decide_eq_true c6
          clear c6
          by_cases c7 : 0 ≤ x20_1
          · rw [if_pos c7] at H
            have c7b0 : decide (0 ≤ x20_1) = true := decide_eq_true c7
            clear c7
            by_cases c8 : x20_1 < (l1.length : Int)
            · rw [if_pos c8] at H
              have c8b0 : decide (x20_1 < (l1.length : Int)) = true := decide_eq_true c8
              clear c8
              replace H := be0_ H
              obtain ⟨t103, A90, H⟩ := H
              replace H : (if t103 = true then (if x20_1 > 0 then (if 0 ≤ (wrap64 (x20_1 - 1)) then (if (wrap64 (x20_1 - 1)) < (l1.length : Int) then (if (rd l1 (wrap64 (x20_1 - 1))) ≥ (rd l1 x20_1) then (some (([] : List ByteArray), false)) else (if 0 ≤ x9_1 then (if x9_1 ≤ (rd l1 x20_1) then (if (rd l1 x20_1) ≤ (l0.length : Int) then ((spec_l13Join.f k1 ((l0.take ((rd l1 x20_1) : Int).toNat).drop (x9_1 : Int).toNat)).bind fun t106 => (if x8_1.length < 8796093022208 then (spec_BreakAt.l0 k1 l0 l1 a2 (x8_1 ++ [t106]) (rd l1 x20_1) l1 (l1.length : Int) (wrap64 (x20_1 + 1))) else (none))) else (none)) else (none)) else (none))) else (none)) else (none)) else (if 0 ≤ x9_1 then (if x9_1 ≤ (rd l1 x20_1) then (if (rd l1 x20_1) ≤ (l0.length : Int) then ((spec_l13Join.f k1 ((l0.take ((rd l1 x20_1) : Int).toNat).drop (x9_1 : Int).toNat)).bind fun t111 => (if x8_1.length < 8796093022208 then (spec_BreakAt.l0 k1 l0 l1 a2 (x8_1 ++ [t111]) (rd l1 x20_1) l1 (l1.length : Int) (wrap64 (x20_1 + 1))) else (none))) else (none)) else (none)) else (none))) else (some (([] : List ByteArray), false))) = some (r1, r2) := H
              have A9 := mz A90
              clear A90
              by_cases c10 : t103 = true
              · subst c10
                have H1 : (if x20_1 > 0 then (if 0 ≤ (wrap64 (x20_1 - 1)) then (if (wrap64 (x20_1 - 1)) < (l1.length : Int) then (if (rd l1 (wrap64 (x20_1 - 1))) ≥ (rd l1 x20_1) then (some (([] : List ByteArray), false)) else (if 0 ≤ x9_1 then (if x9_1 ≤ (rd l1 x20_1) then (if (rd l1 x20_1) ≤ (l0.length : Int) then ((spec_l13Join.f k1 ((l0.take ((rd l1 x20_1) : Int).toNat).drop (x9_1 : Int).toNat)).bind fun t106 => (if x8_1.length < 8796093022208 then (spec_BreakAt.l0 k1 l0 l1 a2 (x8_1 ++ [t106]) (rd l1 x20_1) l1 (l1.length : Int) (wrap64 (x20_1 + 1))) else (none))) else (none)) else (none)) else (none))) else (none)) else (none)) else (if 0 ≤ x9_1 then (if x9_1 ≤ (rd l1 x20_1) then (if (rd l1 x20_1) ≤ (l0.length : Int) then ((spec_l13Join.f k1 ((l0.take ((rd l1 x20_1) : Int).toNat).drop (x9_1 : Int).toNat)).bind fun t111 => (if x8_1.length < 8796093022208 then (spec_BreakAt.l0 k1 l0 l1 a2 (x8_1 ++ [t111]) (rd l1 x20_1) l1 (l1.length : Int) (wrap64 (x20_1 + 1))) else (none))) else (none)) else (none)) else (none))) = some (r1, r2) := by rw [if_pos rfl] at H; exact H
                clear H
                have H := H1
                clear H1
                by_cases c11 : x20_1 > 0
                · rw [if_pos c11] at H
                  have c11b0 : decide (0 < x20_1) = true := decide_eq_true c11
                  clear c11
                  obtain ⟨ji12, hji12⟩ : ∃ j_ : Int, (wrap64 (x20_1 - 1)) = j_ := ⟨_, rfl⟩
                  replace H : (if 0 ≤ (ji12) then (if (ji12) < (l1.length : Int) then (if (rd l1 (ji12)) ≥ (rd l1 x20_1) then (some (([] : List ByteArray), false)) else (if 0 ≤ x9_1 then (if x9_1 ≤ (rd l1 x20_1) then (if (rd l1 x20_1) ≤ (l0.length : Int) then ((spec_l13Join.f k1 ((l0.take ((rd l1 x20_1) : Int).toNat).drop (x9_1 : Int).toNat)).bind fun t106 => (if x8_1.length < 8796093022208 then (spec_BreakAt.l0 k1 l0 l1 a2 (x8_1 ++ [t106]) (rd l1 x20_1) l1 (l1.length : Int) (wrap64 (x20_1 + 1))) else (none))) else (none)) else (none)) else (none))) else (none)) else (none)) = some (r1, r2) := by first | (rw [hji12] at H; exact H) | (simp only [hji12] at H ⊢; exact H)
                  (try rw [hji12] at A9)
                  have hji12w : (IntKind.i64.wrap (x20_1 - 1)) = ji12 := (i64_w _).trans hji12
                  by_cases c13 : 0 ≤ (ji12)
                  · rw [if_pos c13] at H
                    have c13b0 : decide (0 ≤ (ji12)) = true := decide_eq_true c13
                    clear c13
                    by_cases c14 : (ji12) < (l1.length : Int)
                    · rw [if_pos c14] at H
                      have c14b0 : decide ((ji12) < (l1.length : Int)) = true := decide_eq_true c14
                      clear c14
                      by_cases c15 : (rd l1 (ji12)) ≥ (rd l1 x20_1)
                      · rw [if_pos c15] at H
                        have c15b0 : decide ((rd l1 x20_1) ≤ (rd l1 (ji12))) = true := decide_eq_true c15
                        clear c15
                        simp only [Option.some.injEq, Prod.mk.injEq] at H
                        obtain ⟨rfl, rfl⟩ := H
                        have p102 : 0 ≤ (x20_1 : Int) := of_decide_eq_true (by first | (with_reducible assumption) | assumption)
                        have q102 : x20_1 < (l1.length : Int) := of_decide_eq_true (by first | (with_reducible assumption) | assumption)
                        obtain ⟨ad102, e102, hx102_0⟩ := Kd.at_int HR1.out x20_1 p102 q102
                        cases e102
                        replace hx102_0 := bc_ HB.out hx102_0
                        replace p102 := eq_true p102
                        replace q102 := eq_true q102
                        go_wp2_with (first | ((with_reducible refine gate_callee (f := 34) rfl ?_); refine goesL_ (some 29) rfl rfl Try.func34 (by kernel_rfl) rfl #[.int .i64 (rd l1 x20_1), .int .i64 1, .int .i64 (wrap64 ((l0.length : Int) - 1))] rfl (by (try simp only [List.map_toArray, List.map_cons, List.map_nil]); first | done | rfl | (simp only [List.length_drop, List.length_take]; rfl)) ?_; (with_reducible refine (spec_l1In.calls (rd l1 x20_1) 1 (wrap64 ((l0.length : Int) - 1)) true _ A9.out).mono ?_); rintro e w' ⟨rfl, ⟨nd, rfl⟩⟩; refine ⟨_, rfl, ?_⟩; have p104 : 0 ≤ ((ji12) : Int) := of_decide_eq_true (by first | (with_reducible assumption) | assumption); have q104 : (ji12) < (l1.length : Int) := of_decide_eq_true (by first | (with_reducible assumption) | assumption); obtain ⟨ad104, e104, hx104_0⟩ := Kd.at_int HR1.out (ji12) p104 q104; obtain rfl : ad102 = ad104 := (by injection e104); replace hx104_0 := bc_ HB.out hx104_0; replace p104 := eq_true p104; replace q104 := eq_true q104))
                        go_ret2
                        exact ⟨_, by first | rfl | (simp [errW_none, errW_some] <;> rfl) | (simp only [← hji12]; first | rfl | (simp [errW_none, errW_some] <;> rfl)) | (simp [*, errW_none, errW_some] <;> rfl), by first | exact Kd.R_nil _ _ _ _ _ | exact Kd.N_nil _ _ _ _ _ | exact Kd.V_nil _ _ _ _ _ | exact Kd.Q_nil _ _ _ _ _ | exact Kd.S_nil _ _ _ _ _, by repeat (first | (with_reducible first | exact HB.out | apply below_alloc | apply pw_below_drewN | apply below_drew1) | exact HB.out)⟩
                      · rw [if_neg c15] at H
                        have c15b0 : decide ((rd l1 x20_1) ≤ (rd l1 (ji12))) = false := decide_eq_false c15
                        clear c15
                        by_cases c16 : 0 ≤ x9_1
                        · rw [if_pos c16] at H
                          have c16b0 := eq_true c16
                          have c16b1 : decide (0 ≤ x9_1) = true := decide_eq_true c16
                          clear c16
                          by_cases c17 : x9_1 ≤ (rd l1 x20_1)
                          · rw [if_pos c17] at H
                            have c17b0 := eq_true c17
                            have c17b1 : decide (x9_1 ≤ (rd l1 x20_1)) = true := decide_eq_true c17
                            clear c17
                            by_cases c18 : (rd l1 x20_1) ≤ (l0.length : Int)
                            · rw [if_pos c18] at H
                              have c18b0 := eq_true c18
                              have c18b1 : decide ((rd l1 x20_1) ≤ (l0.length : Int)) = true := decide_eq_true c18
                              clear c18
                              replace H := be0_ H
                              obtain ⟨t106, A190, H⟩ := H
                              replace H : (if x8_1.length < 8796093022208 then (spec_BreakAt.l0 k1 l0 l1 a2 (x8_1 ++ [t106]) (rd l1 x20_1) l1 (l1.length : Int) (wrap64 (x20_1 + 1))) else (none)) = some (r1, r2) := H
                              have A19 := mz A190
                              clear A190
                              by_cases c20 : x8_1.length < 8796093022208
                              · rw [if_pos c20] at H
                                have LMc20 := mz c20
                                clear c20
                                obtain ⟨y107, hy107⟩ : ∃ y_ : List ByteArray, y_ = (x8_1 ++ [t106]) := ⟨_, rfl⟩
                                replace H : (spec_BreakAt.l0 k1 l0 l1 a2 y107 (rd l1 x20_1) l1 (l1.length : Int) (wrap64 (x20_1 + 1))) = some (r1, r2) := by first | (rw [hy107]; with_reducible exact H) | (have H2_ := (Option.bind_some _ _).symm.trans H; rw [hy107]; with_reducible exact H2_) | (have H2_ := (Option.bind_some _ _).symm.trans H; with_reducible exact H2_) | with_reducible exact H | (rw [hy107]; exact H) | exact H
                                have Ny107 := mz hy107
                                clear hy107
                                have H' := mz H
                                clear H
                                have p102 : 0 ≤ (x20_1 : Int) := of_decide_eq_true (by first | (with_reducible assumption) | assumption)
                                have q102 : x20_1 < (l1.length : Int) := of_decide_eq_true (by first | (with_reducible assumption) | assumption)
                                obtain ⟨ad102, e102, hx102_0⟩ := Kd.at_int HR1.out x20_1 p102 q102
                                cases e102
                                replace hx102_0 := bc_ HB.out hx102_0
                                replace p102 := eq_true p102
                                replace q102 := eq_true q102
                                go_wp2_with (first | ((with_reducible refine gate_callee (f := 34) rfl ?_); refine goesL_ (some 29) rfl rfl Try.func34 (by kernel_rfl) rfl #[.int .i64 (rd l1 x20_1), .int .i64 1, .int .i64 (wrap64 ((l0.length : Int) - 1))] rfl (by (try simp only [List.map_toArray, List.map_cons, List.map_nil]); first | done | rfl | (simp only [List.length_drop, List.length_take]; rfl)) ?_; (with_reducible refine (spec_l1In.calls (rd l1 x20_1) 1 (wrap64 ((l0.length : Int) - 1)) true _ A9.out).mono ?_); rintro e w' ⟨rfl, ⟨nd, rfl⟩⟩; refine ⟨_, rfl, ?_⟩; have p104 : 0 ≤ ((ji12) : Int) := of_decide_eq_true (by first | (with_reducible assumption) | assumption); have q104 : (ji12) < (l1.length : Int) := of_decide_eq_true (by first | (with_reducible assumption) | assumption); obtain ⟨ad104, e104, hx104_0⟩ := Kd.at_int HR1.out (ji12) p104 q104; obtain rfl : ad102 = ad104 := (by injection e104); replace hx104_0 := bc_ HB.out hx104_0; replace p104 := eq_true p104; replace q104 := eq_true q104; obtain ⟨i021, hi021, _, hsz21, _⟩ := info_parts info9; obtain ⟨A21, hcut21, hA21, hC21⟩ := print_mid_of (P := Try.prog) Value.string (⟨#[]⟩ : ByteArray) 23 9 .i64 .i64 Try.underlying23 hi021 hsz21 A0 c0 l0 x9_1 (rd l1 x20_1) (of_decide_eq_true (by first | (with_reducible assumption) | assumption)) (by first | omega | exact of_decide_eq_true (by first | (with_reducible assumption) | assumption)) (of_decide_eq_true (by first | (with_reducible assumption) | assumption)) HC0.out; have HR105 := mz (Kd.C_of_reads (h1 := fun _ => rfl) (hA21 _ (Kd.reads_of_C HR0.out))); have HC105 := mz hC21; clear hA21 hC21 hi021 hsz21) | ((with_reducible refine gate_callee (f := 25) rfl ?_); refine goesL_ (some 49) rfl rfl Try.func25 (by kernel_rfl) rfl #[.slice A21 ((l0.take ((rd l1 x20_1) : Int).toNat).drop (x9_1 : Int).toNat).length (c0 - x9_1.toNat)] rfl (by (try simp only [List.map_toArray, List.map_cons, List.map_nil]); first | done | (rw [show ((l0.take ((rd l1 x20_1) : Int).toNat).drop (x9_1 : Int).toNat).length = ((rd l1 x20_1).toNat - x9_1.toNat) from (by rw [List.length_drop, List.length_take]; have h_ : ((rd l1 x20_1) : Int) ≤ (l0.length : Int) := of_decide_eq_true (by first | (with_reducible assumption) | assumption); omega)] <;> rfl) | rfl | (simp only [List.length_drop, List.length_take]; rfl)) ?_; (with_reducible refine (spec_l13Join.calls k1 _ _ ((l0.take ((rd l1 x20_1) : Int).toNat).drop (x9_1 : Int).toNat) t106 _ ?side1 ?side2 A19.out).mono ?_); (case side1 => repeat (first | exact (Kd.C_below HR105.out (by repeat (first | (with_reducible first | exact HB.out | apply below_alloc | apply pw_below_drewN | apply below_drew1) | exact HB.out))) | (with_reducible refine Kd.C_alloc ?_ _) | (with_reducible refine Kd.C_drewN ?_ _) | (with_reducible refine Kd.C_drew ?_))); (case side2 => exact HC105.out); rintro e w' ⟨rfl, ⟨nd, rfl⟩⟩; refine ⟨_, rfl, ?_⟩) | ((with_reducible refine gate_builtin (b := .append) (xs := #[.tmp 44, .tmp 50]) rfl ?_); at_builtin; refine Kd.R_append Kd.string (w0 := w) w.heap.size rfl (.tmp 44) (.tmp 50) 23 9 (.string ⟨#[]⟩) 16 rfl Try.underlying23 info9 rfl (by decide) (by omega) u8 x8_1 t106 [.string t106] (fun _ => True) (fun _ => False) rfl rfl ?aP (fun _ hk => hk.elim) ?aF ?aO ?aB ?aS ?aL ?_; (case aP => exact rfl); (case aB => exact (by repeat (first | (with_reducible first | exact HB.out | apply below_alloc | apply pw_below_drewN | apply below_drew1) | exact HB.out))); (case aF => exact (fun _ _ => trivial)); (case aO => exact (by (with_reducible repeat (first | apply Kd.R_alloc | apply Kd.R_drewN | apply Kd.R_drew)); exact HO_8.out)); (case aS => exact (below_size (by repeat (first | (with_reducible first | exact HB.out | apply below_alloc | apply pw_below_drewN | apply below_drew1) | exact HB.out)))); (case aL => have := LMc20.out; omega); intro v108 w22 ho hb hg hat; rw [← Ny107.out] at ho; have n0_ := mz (hb); have n1_ := mz (ho); clear HB; clear HO_8; have HB := n0_; have HO109 := n1_; clear n0_ n1_; clear ho hb hg hat))
                                go_roundg k1
                                case measure => have := HK1.out; omega
                                case rel => exact ⟨(y107), (rd l1 x20_1), (wrap64 (x20_1 + 1)), (by first | rfl | (simp; done) | (simp [*]; done)), (by first | rfl | (simp; done) | (simp [*]; done)), H', ⟨by have := HK1.out; omega⟩, ⟨by (with_reducible repeat (first | apply Kd.R_alloc | apply Kd.R_drewN | apply Kd.R_drew)); exact HO109.out⟩, ⟨by repeat (first | (with_reducible first | exact HB.out | apply below_alloc | apply pw_below_drewN | apply below_drew1) | exact HB.out)⟩⟩
                              · rw [if_neg c20] at H
                                exact absurd H (by simp)
                            · rw [if_neg c18] at H
                              exact absurd H (by simp)
                          · rw [if_neg c17] at H
                            exact absurd H (by simp)
                        · rw [if_neg c16] at H
                          exact absurd H (by simp)
                    · rw [if_neg c14] at H
                      exact absurd H (by simp)
                  · rw [if_neg c13] at H
                    exact absurd H (by simp)
                · rw [if_neg c11] at H
                  have c11b0 : decide (0 < x20_1) = false := decide_eq_false c11
                  clear c11
                  by_cases c23 : 0 ≤ x9_1
                  · rw [if_pos c23] at H
                    have c23b0 := eq_true c23
                    have c23b1 : decide (0 ≤ x9_1) = true := decide_eq_true c23
                    clear c23
                    by_cases c24 : x9_1 ≤ (rd l1 x20_1)
                    · rw [if_pos c24] at H
                      have c24b0 := eq_true c24
                      have c24b1 : decide (x9_1 ≤ (rd l1 x20_1)) = true := decide_eq_true c24
                      clear c24
                      by_cases c25 : (rd l1 x20_1) ≤ (l0.length : Int)
                      · rw [if_pos c25] at H
                        have c25b0 := eq_true c25
                        have c25b1 : decide ((rd l1 x20_1) ≤ (l0.length : Int)) = true := decide_eq_true c25
                        clear c25
                        replace H := be0_ H
                        obtain ⟨t111, A260, H⟩ := H
                        replace H : (if x8_1.length < 8796093022208 then (spec_BreakAt.l0 k1 l0 l1 a2 (x8_1 ++ [t111]) (rd l1 x20_1) l1 (l1.length : Int) (wrap64 (x20_1 + 1))) else (none)) = some (r1, r2) := H
                        have A26 := mz A260
                        clear A260
                        by_cases c27 : x8_1.length < 8796093022208
                        · rw [if_pos c27] at H
                          have LMc27 := mz c27
                          clear c27
                          obtain ⟨y112, hy112⟩ : ∃ y_ : List ByteArray, y_ = (x8_1 ++ [t111]) := ⟨_, rfl⟩
                          replace H : (spec_BreakAt.l0 k1 l0 l1 a2 y112 (rd l1 x20_1) l1 (l1.length : Int) (wrap64 (x20_1 + 1))) = some (r1, r2) := by first | (rw [hy112]; with_reducible exact H) | (have H2_ := (Option.bind_some _ _).symm.trans H; rw [hy112]; with_reducible exact H2_) | (have H2_ := (Option.bind_some _ _).symm.trans H; with_reducible exact H2_) | with_reducible exact H | (rw [hy112]; exact H) | exact H
                          have Ny112 := mz hy112
                          clear hy112
                          have H' := mz H
                          clear H
                          have p102 : 0 ≤ (x20_1 : Int) := of_decide_eq_true (by first | (with_reducible assumption) | assumption)
                          have q102 : x20_1 < (l1.length : Int) := of_decide_eq_true (by first | (with_reducible assumption) | assumption)
                          obtain ⟨ad102, e102, hx102_0⟩ := Kd.at_int HR1.out x20_1 p102 q102
                          cases e102
                          replace hx102_0 := bc_ HB.out hx102_0
                          replace p102 := eq_true p102
                          replace q102 := eq_true q102
                          go_wp2_with (first | ((with_reducible refine gate_callee (f := 34) rfl ?_); refine goesL_ (some 29) rfl rfl Try.func34 (by kernel_rfl) rfl #[.int .i64 (rd l1 x20_1), .int .i64 1, .int .i64 (wrap64 ((l0.length : Int) - 1))] rfl (by (try simp only [List.map_toArray, List.map_cons, List.map_nil]); first | done | rfl | (simp only [List.length_drop, List.length_take]; rfl)) ?_; (with_reducible refine (spec_l1In.calls (rd l1 x20_1) 1 (wrap64 ((l0.length : Int) - 1)) true _ A9.out).mono ?_); rintro e w' ⟨rfl, ⟨nd, rfl⟩⟩; refine ⟨_, rfl, ?_⟩; obtain ⟨i028, hi028, _, hsz28, _⟩ := info_parts info9; obtain ⟨A28, hcut28, hA28, hC28⟩ := print_mid_of (P := Try.prog) Value.string (⟨#[]⟩ : ByteArray) 23 9 .i64 .i64 Try.underlying23 hi028 hsz28 A0 c0 l0 x9_1 (rd l1 x20_1) (of_decide_eq_true (by first | (with_reducible assumption) | assumption)) (by first | omega | exact of_decide_eq_true (by first | (with_reducible assumption) | assumption)) (of_decide_eq_true (by first | (with_reducible assumption) | assumption)) HC0.out; have HR110 := mz (Kd.C_of_reads (h1 := fun _ => rfl) (hA28 _ (Kd.reads_of_C HR0.out))); have HC110 := mz hC28; clear hA28 hC28 hi028 hsz28) | ((with_reducible refine gate_callee (f := 25) rfl ?_); refine goesL_ (some 49) rfl rfl Try.func25 (by kernel_rfl) rfl #[.slice A28 ((l0.take ((rd l1 x20_1) : Int).toNat).drop (x9_1 : Int).toNat).length (c0 - x9_1.toNat)] rfl (by (try simp only [List.map_toArray, List.map_cons, List.map_nil]); first | done | (rw [show ((l0.take ((rd l1 x20_1) : Int).toNat).drop (x9_1 : Int).toNat).length = ((rd l1 x20_1).toNat - x9_1.toNat) from (by rw [List.length_drop, List.length_take]; have h_ : ((rd l1 x20_1) : Int) ≤ (l0.length : Int) := of_decide_eq_true (by first | (with_reducible assumption) | assumption); omega)] <;> rfl) | rfl | (simp only [List.length_drop, List.length_take]; rfl)) ?_; (with_reducible refine (spec_l13Join.calls k1 _ _ ((l0.take ((rd l1 x20_1) : Int).toNat).drop (x9_1 : Int).toNat) t111 _ ?side1 ?side2 A26.out).mono ?_); (case side1 => repeat (first | exact (Kd.C_below HR110.out (by repeat (first | (with_reducible first | exact HB.out | apply below_alloc | apply pw_below_drewN | apply below_drew1) | exact HB.out))) | (with_reducible refine Kd.C_alloc ?_ _) | (with_reducible refine Kd.C_drewN ?_ _) | (with_reducible refine Kd.C_drew ?_))); (case side2 => exact HC110.out); rintro e w' ⟨rfl, ⟨nd, rfl⟩⟩; refine ⟨_, rfl, ?_⟩) | ((with_reducible refine gate_builtin (b := .append) (xs := #[.tmp 44, .tmp 50]) rfl ?_); at_builtin; refine Kd.R_append Kd.string (w0 := w) w.heap.size rfl (.tmp 44) (.tmp 50) 23 9 (.string ⟨#[]⟩) 16 rfl Try.underlying23 info9 rfl (by decide) (by omega) u8 x8_1 t111 [.string t111] (fun _ => True) (fun _ => False) rfl rfl ?aP (fun _ hk => hk.elim) ?aF ?aO ?aB ?aS ?aL ?_; (case aP => exact rfl); (case aB => exact (by repeat (first | (with_reducible first | exact HB.out | apply below_alloc | apply pw_below_drewN | apply below_drew1) | exact HB.out))); (case aF => exact (fun _ _ => trivial)); (case aO => exact (by (with_reducible repeat (first | apply Kd.R_alloc | apply Kd.R_drewN | apply Kd.R_drew)); exact HO_8.out)); (case aS => exact (below_size (by repeat (first | (with_reducible first | exact HB.out | apply below_alloc | apply pw_below_drewN | apply below_drew1) | exact HB.out)))); (case aL => have := LMc27.out; omega); intro v113 w29 ho hb hg hat; rw [← Ny112.out] at ho; have n0_ := mz (hb); have n1_ := mz (ho); clear HB; clear HO_8; have HB := n0_; have HO114 := n1_; clear n0_ n1_; clear ho hb hg hat))
                          go_roundg k1
                          case measure => have := HK1.out; omega
                          case rel => exact ⟨(y112), (rd l1 x20_1), (wrap64 (x20_1 + 1)), (by first | rfl | (simp; done) | (simp [*]; done)), (by first | rfl | (simp; done) | (simp [*]; done)), H', ⟨by have := HK1.out; omega⟩, ⟨by (with_reducible repeat (first | apply Kd.R_alloc | apply Kd.R_drewN | apply Kd.R_drew)); exact HO114.out⟩, ⟨by repeat (first | (with_reducible first | exact HB.out | apply below_alloc | apply pw_below_drewN | apply below_drew1) | exact HB.out)⟩⟩
                        · rw [if_neg c27] at H
                          exact absurd H (by simp)
                      · rw [if_neg c25] at H
                        exact absurd H (by simp)
                    · rw [if_neg c24] at H
                      exact absurd H (by simp)
                  · rw [if_neg c23] at H
                    exact absurd H (by simp)
              · replace c10 := Bool.eq_false_iff.mpr c10
                subst c10
                have H1 : (some (([] : List ByteArray), false)) = some (r1, r2) := by rw [if_neg (show ¬ (false = true) by decide)] at H; exact H
                clear H
                have H := H1
                clear H1
                simp only [Option.some.injEq, Prod.mk.injEq] at H
                obtain ⟨rfl, rfl⟩ := H
                have p102 : 0 ≤ (x20_1 : Int) := of_decide_eq_true (by first | (with_reducible assumption) | assumption)
                have q102 : x20_1 < (l1.length : Int) := of_decide_eq_true (by first | (with_reducible assumption) | assumption)
                obtain ⟨ad102, e102, hx102_0⟩ := Kd.at_int HR1.out x20_1 p102 q102
                cases e102
                replace hx102_0 := bc_ HB.out hx102_0
                replace p102 := eq_true p102
                replace q102 := eq_true q102
                go_wp2_with (first | ((with_reducible refine gate_callee (f := 34) rfl ?_); refine goesL_ (some 29) rfl rfl Try.func34 (by kernel_rfl) rfl #[.int .i64 (rd l1 x20_1), .int .i64 1, .int .i64 (wrap64 ((l0.length : Int) - 1))] rfl (by (try simp only [List.map_toArray, List.map_cons, List.map_nil]); first | done | rfl | (simp only [List.length_drop, List.length_take]; rfl)) ?_; (with_reducible refine (spec_l1In.calls (rd l1 x20_1) 1 (wrap64 ((l0.length : Int) - 1)) false _ A9.out).mono ?_); rintro e w' ⟨rfl, ⟨nd, rfl⟩⟩; refine ⟨_, rfl, ?_⟩))
                go_ret2
                exact ⟨_, by first | rfl | (simp [errW_none, errW_some] <;> rfl) | (simp [*, errW_none, errW_some] <;> rfl), by first | exact Kd.R_nil _ _ _ _ _ | exact Kd.N_nil _ _ _ _ _ | exact Kd.V_nil _ _ _ _ _ | exact Kd.Q_nil _ _ _ _ _ | exact Kd.S_nil _ _ _ _ _, by repeat (first | (with_reducible first | exact HB.out | apply below_alloc | apply pw_below_drewN | apply below_drew1) | exact HB.out)⟩
            · rw [if_neg c8] at H
              exact absurd H (by simp)
          · rw [if_neg c7] at H
            exact absurd H (by simp)
        · rw [if_neg c6] at H
          have c6b0 : decide (x20_1 < (l1.length : Int)) = false := decide_eq_false c6
          clear c6
          have HC30 := mz H
          clear H
          go_upto_if 57 with (fail)
          go_cut [8] (fun v8 wc => ∃ (kq : Nat) (x8_29 : List ByteArray), Aside0 (spec_BreakAt.j1 kq a2 x8_29 = some (r1, r2)) ∧ Aside0 (kq ≤ k1) ∧ Aside0 (Kd.R Kd.string 9 wc w.heap.size (fun _ => True) v8 x8_29) ∧ Aside0 (Below w.heap.size w wc))
          case first =>
            have H := HC30.out
            clear HC30
            by_cases c31 : x9_1 < (l0.length : Int)
            · rw [if_pos c31] at H
              have c31b0 : decide (x9_1 < (l0.length : Int)) = true := decide_eq_true c31
              clear c31
              (first | rw [c31b0] | (simp only [i64_w, i32_w]; rw [c31b0]) | skip)
              by_cases c32 : 0 ≤ x9_1
              · rw [if_pos c32] at H
                have c32b0 := eq_true c32
                have c32b1 : decide (0 ≤ x9_1) = true := decide_eq_true c32
                clear c32
                by_cases c33 : x9_1 ≤ (l0.length : Int)
                · rw [if_pos c33] at H
                  have c33b0 := eq_true c33
                  have c33b1 : decide (x9_1 ≤ (l0.length : Int)) = true := decide_eq_true c33
                  clear c33
                  replace H := be0_ H
                  obtain ⟨t116, A340, H⟩ := H
                  replace H : (if x8_1.length < 8796093022208 then (spec_BreakAt.j1 k1 a2 (x8_1 ++ [t116])) else (none)) = some (r1, r2) := H
                  have A34 := mz A340
                  clear A340
                  by_cases c35 : x8_1.length < 8796093022208
                  · rw [if_pos c35] at H
                    have LMc35 := mz c35
                    clear c35
                    obtain ⟨y117, hy117⟩ : ∃ y_ : List ByteArray, y_ = (x8_1 ++ [t116]) := ⟨_, rfl⟩
                    replace H : (spec_BreakAt.j1 k1 a2 y117) = some (r1, r2) := by first | (rw [hy117]; with_reducible exact H) | (have H2_ := (Option.bind_some _ _).symm.trans H; rw [hy117]; with_reducible exact H2_) | (have H2_ := (Option.bind_some _ _).symm.trans H; with_reducible exact H2_) | with_reducible exact H | (rw [hy117]; exact H) | exact H
                    have Ny117 := mz hy117
                    clear hy117
                    have H' := mz H
                    clear H
                    obtain ⟨i036, hi036, _, hsz36, _⟩ := info_parts info9
                    obtain ⟨A36, hcut36, hA36, hC36⟩ := print_drop_of (P := Try.prog) Value.string (⟨#[]⟩ : ByteArray) 23 9 .i64 Try.underlying23 hi036 hsz36 A0 c0 l0 x9_1 (of_decide_eq_true (by first | (with_reducible assumption) | assumption)) (of_decide_eq_true (by first | (with_reducible assumption) | assumption)) HC0.out
                    have HR115 := mz (Kd.C_of_reads (h1 := fun _ => rfl) (hA36 _ (Kd.reads_of_C HR0.out)))
                    have HC115 := mz hC36
                    clear hA36 hC36 hi036 hsz36
                    go_wp2_with (first | ((with_reducible refine gate_callee (f := 25) rfl ?_); refine goesL_ (some 62) rfl rfl Try.func25 (by kernel_rfl) rfl #[.slice A36 (l0.drop (x9_1 : Int).toNat).length (c0 - x9_1.toNat)] rfl (by (try simp only [List.map_toArray, List.map_cons, List.map_nil]); first | done | (rw [show (l0.drop (x9_1 : Int).toNat).length = (l0.length - x9_1.toNat) from List.length_drop] <;> rfl) | rfl | (simp only [List.length_drop, List.length_take]; rfl)) ?_; (with_reducible refine (spec_l13Join.calls k1 _ _ (l0.drop (x9_1 : Int).toNat) t116 _ ?side1 ?side2 A34.out).mono ?_); (case side1 => repeat (first | exact (Kd.C_below HR115.out HB.out) | (with_reducible refine Kd.C_alloc ?_ _) | (with_reducible refine Kd.C_drewN ?_ _) | (with_reducible refine Kd.C_drew ?_))); (case side2 => exact HC115.out); rintro e w' ⟨rfl, ⟨nd, rfl⟩⟩; refine ⟨_, rfl, ?_⟩) | ((with_reducible refine gate_builtin (b := .append) (xs := #[.tmp 58, .tmp 63]) rfl ?_); at_builtin; refine Kd.R_append Kd.string (w0 := w) w.heap.size rfl (.tmp 58) (.tmp 63) 23 9 (.string ⟨#[]⟩) 16 rfl Try.underlying23 info9 rfl (by decide) (by omega) u8 x8_1 t116 [.string t116] (fun _ => True) (fun _ => False) rfl rfl ?aP (fun _ hk => hk.elim) ?aF ?aO ?aB ?aS ?aL ?_; (case aP => exact rfl); (case aB => exact (by repeat (first | (with_reducible first | exact HB.out | apply below_alloc | apply pw_below_drewN | apply below_drew1) | exact HB.out))); (case aF => exact (fun _ _ => trivial)); (case aO => exact (by (with_reducible repeat (first | apply Kd.R_alloc | apply Kd.R_drewN | apply Kd.R_drew)); exact HO_8.out)); (case aS => exact (below_size (by repeat (first | (with_reducible first | exact HB.out | apply below_alloc | apply pw_below_drewN | apply below_drew1) | exact HB.out)))); (case aL => have := LMc35.out; omega); intro v118 w37 ho hb hg hat; rw [← Ny117.out] at ho; have n0_ := mz (hb); have n1_ := mz (ho); clear HB; clear HO_8; have HB := n0_; have HO119 := n1_; clear n0_ n1_; clear ho hb hg hat))
                    go_meet
                    case rel => exact ⟨_, (y117), H', ⟨by have := HK1.out; first | omega | exact Nat.le_refl _⟩, ⟨by (with_reducible repeat (first | apply Kd.R_alloc | apply Kd.R_drewN | apply Kd.R_drew)); exact HO119.out⟩, ⟨by repeat (first | (with_reducible first | exact HB.out | apply below_alloc | apply pw_below_drewN | apply below_drew1) | exact HB.out)⟩⟩
                  · rw [if_neg c35] at H
                    exact absurd H (by simp)
                · rw [if_neg c33] at H
                  exact absurd H (by simp)
              · rw [if_neg c32] at H
                exact absurd H (by simp)
            · rw [if_neg c31] at H
              have c31b0 : decide (x9_1 < (l0.length : Int)) = false := decide_eq_false c31
              clear c31
              (first | rw [c31b0] | (simp only [i64_w, i32_w]; rw [c31b0]) | skip)
              have H' := mz H
              clear H
              go_wp2
              go_meet
              case rel => exact ⟨_, (x8_1), H', ⟨by have := HK1.out; first | omega | exact Nat.le_refl _⟩, ⟨by (with_reducible repeat (first | apply Kd.R_alloc | apply Kd.R_drewN | apply Kd.R_drew)); exact HO_8.out⟩, ⟨by repeat (first | (with_reducible first | exact HB.out | apply below_alloc | apply pw_below_drewN | apply below_drew1) | exact HB.out)⟩⟩
          case rest =>
            clear HC30
            try clear c1
            try clear p1
            try clear q1
            try clear hx1
            try clear c2
            try clear p2
            try clear c3
            try clear c5
            try clear c6
            try clear c6b0
            try clear p6
            try clear c7
            try clear c7b0
            try clear c8
            try clear c8b0
            try clear c10
            try clear p10
            try clear q10
            try clear hx10
            try clear c11
            try clear c11b0
            try clear c13
            try clear c13b0
            try clear c14
            try clear c14b0
            try clear c15
            try clear c15b0
            try clear c16
            try clear c16b0
            try clear c16b1
            try clear c17
            try clear c17b0
            try clear c17b1
            try clear c18
            try clear c18b0
            try clear c18b1
            try clear c20
            try clear c23
            try clear c23b0
            try clear c23b1
            try clear c24
            try clear c24b0
            try clear c24b1
            try clear c25
            try clear c25b0
            try clear c25b1
            try clear c27
            try clear c31
            try clear c31b0
            try clear c32
            try clear c32b0
            try clear c32b1
            try clear c33
            try clear c33b0
            try clear c33b1
            try clear c34
            try clear c35
            try clear hx102_0
            try clear hx104_0
            try clear p102
            try clear p104
            try clear p2
            try clear q102
            try clear q104
            obtain ⟨kq, x8_29, HA, HJ29, HO_8, HB⟩ := hcut
            cases kq with
            | zero => exact absurd HA.out (by simp [spec_BreakAt.j1])
            | succ kj29 =>
              have H := HA.out
              clear HA
              simp only [spec_BreakAt.j1] at H
              have H' := mz H
              clear H
              obtain ⟨Ao38, co38, eo38⟩ := Kd.R_slice HO_8.out
              subst eo38
              go_wp2
              go_loopg [67] kj29 (fun kq v67 w' => ∃ (x67_3 : Int), v67 = .int .i64 x67_3 ∧ Aside0 (spec_BreakAt.l1 kq a2 x8_29 x8_29 (x8_29.length : Int) x67_3 = some (r1, r2)) ∧ Aside0 (kq ≤ kj29) ∧ Aside0 (Kd.R Kd.string 9 w' w.heap.size (fun _ => True) (.slice Ao38 x8_29.length co38) x8_29) ∧ Aside0 (Kd.R Kd.string 9 w' w.heap.size (fun _ => True) (.slice Ao38 x8_29.length co38) x8_29) ∧ Aside0 (Below w.heap.size w w'))
              case atStart => exact ⟨(0), (by first | rfl | (simp; done) | (simp [*]; done)), H', ⟨Nat.le_refl _⟩, ⟨by (with_reducible repeat (first | apply Kd.R_alloc | apply Kd.R_drewN | apply Kd.R_drew)); exact HO_8.out⟩, ⟨by (with_reducible repeat (first | apply Kd.R_alloc | apply Kd.R_drewN | apply Kd.R_drew)); exact HO_8.out⟩, ⟨by repeat (first | (with_reducible first | exact HB.out | apply below_alloc | apply pw_below_drewN | apply below_drew1) | exact HB.out)⟩⟩
              case round =>
                clear H'
                try clear c1
                try clear p1
                try clear q1
                try clear hx1
                try clear c2
                try clear p2
                try clear c3
                try clear c5
                try clear c6
                try clear c6b0
                try clear p6
                try clear c7
                try clear c7b0
                try clear c8
                try clear c8b0
                try clear c10
                try clear p10
                try clear q10
                try clear hx10
                try clear c11
                try clear c11b0
                try clear c13
                try clear c13b0
                try clear c14
                try clear c14b0
                try clear c15
                try clear c15b0
                try clear c16
                try clear c16b0
                try clear c16b1
                try clear c17
                try clear c17b0
                try clear c17b1
                try clear c18
                try clear c18b0
                try clear c18b1
                try clear c20
                try clear c23
                try clear c23b0
                try clear c23b1
                try clear c24
                try clear c24b0
                try clear c24b1
                try clear c25
                try clear c25b0
                try clear c25b1
                try clear c27
                try clear c31
                try clear c31b0
                try clear c32
                try clear c32b0
                try clear c32b1
                try clear c33
                try clear c33b0
                try clear c33b1
                try clear c34
                try clear c35
                try clear hx102_0
                try clear hx104_0
                try clear p1
                try clear p10
                try clear p102
                try clear p104
                try clear p2
                try clear p6
                try clear q1
                try clear q10
                try clear q102
                try clear q104
                obtain ⟨x67_3, rfl, HA, HK3, HO_8, HO_65, HB⟩ := hrel
                cases gk with
                | zero => exact absurd HA.out (by simp [spec_BreakAt.l1])
                | succ k3 =>
                  have H := HA.out
                  clear HA
                  simp only [spec_BreakAt.l1] at H
                  by_cases c39 : x67_3 < (x8_29.length : Int)
                  · rw [if_pos c39] at H
                    have c39b0 : decide (x67_3 < (x8_29.length : Int)) = true := decide_eq_true c39
                    clear c39
                    by_cases c40 : 0 ≤ x67_3
                    · rw [if_pos c40] at H
                      have c40b0 : decide (0 ≤ x67_3) = true := decide_eq_true c40
                      clear c40
                      by_cases c41 : x67_3 < (x8_29.length : Int)
                      · rw [if_pos c41] at H
                        have c41b0 : decide (x67_3 < (x8_29.length : Int)) = true := decide_eq_true c41
                        clear c41
                        by_cases c42 : ((rdOf ByteArray.empty x8_29 x67_3).size : Int) > a2
                        · rw [if_pos c42] at H
                          have c42b0 : decide (a2 < ((rdOf ByteArray.empty x8_29 x67_3).size : Int)) = true := decide_eq_true c42
                          clear c42
                          simp only [Option.some.injEq, Prod.mk.injEq] at H
                          obtain ⟨rfl, rfl⟩ := H
                          have p120 : 0 ≤ (x67_3 : Int) := of_decide_eq_true (by first | (with_reducible assumption) | assumption)
                          have q120 : x67_3 < (x8_29.length : Int) := of_decide_eq_true (by first | (with_reducible assumption) | assumption)
                          obtain ⟨ad120, e120, hx120_0⟩ := Kd.at_string (Kd.R_reads' HO_65.out).2.2 x67_3 p120 q120
                          cases e120
                          replace p120 := eq_true p120
                          replace q120 := eq_true q120
                          go_wp2
                          go_ret2
                          exact ⟨_, by first | rfl | (simp [errW_none, errW_some] <;> rfl) | (simp [*, errW_none, errW_some] <;> rfl), by first | exact Kd.R_nil _ _ _ _ _ | exact Kd.N_nil _ _ _ _ _ | exact Kd.V_nil _ _ _ _ _ | exact Kd.Q_nil _ _ _ _ _ | exact Kd.S_nil _ _ _ _ _, by repeat (first | (with_reducible first | exact HB.out | apply below_alloc | apply pw_below_drewN | apply below_drew1) | exact HB.out)⟩
                        · rw [if_neg c42] at H
                          have c42b0 : decide (a2 < ((rdOf ByteArray.empty x8_29 x67_3).size : Int)) = false := decide_eq_false c42
                          clear c42
                          have H' := mz H
                          clear H
                          have p120 : 0 ≤ (x67_3 : Int) := of_decide_eq_true (by first | (with_reducible assumption) | assumption)
                          have q120 : x67_3 < (x8_29.length : Int) := of_decide_eq_true (by first | (with_reducible assumption) | assumption)
                          obtain ⟨ad120, e120, hx120_0⟩ := Kd.at_string (Kd.R_reads' HO_65.out).2.2 x67_3 p120 q120
                          cases e120
                          replace p120 := eq_true p120
                          replace q120 := eq_true q120
                          go_wp2
                          go_roundg k3
                          case measure => have := HK1.out; have := HJ29.out; have := HK3.out; omega
                          case rel => exact ⟨(wrap64 (x67_3 + 1)), (by first | rfl | (simp; done) | (simp [*]; done)), H', ⟨by have := HK1.out; have := HJ29.out; have := HK3.out; omega⟩, ⟨by (with_reducible repeat (first | apply Kd.R_alloc | apply Kd.R_drewN | apply Kd.R_drew)); exact HO_8.out⟩, ⟨by (with_reducible repeat (first | apply Kd.R_alloc | apply Kd.R_drewN | apply Kd.R_drew)); exact HO_65.out⟩, ⟨by repeat (first | (with_reducible first | exact HB.out | apply below_alloc | apply pw_below_drewN | apply below_drew1) | exact HB.out)⟩⟩
                      · rw [if_neg c41] at H
                        exact absurd H (by simp)
                    · rw [if_neg c40] at H
                      exact absurd H (by simp)
                  · rw [if_neg c39] at H
                    have c39b0 : decide (x67_3 < (x8_29.length : Int)) = false := decide_eq_false c39
                    clear c39
                    simp only [Option.some.injEq, Prod.mk.injEq] at H
                    obtain ⟨rfl, rfl⟩ := H
                    go_wp2
                    go_ret2
                    exact ⟨_, by first | rfl | (simp [errW_none, errW_some] <;> rfl) | (simp [*, errW_none, errW_some] <;> rfl), by (with_reducible repeat (first | apply Kd.R_alloc | apply Kd.R_drewN | apply Kd.R_drew)); exact HO_8.out, by repeat (first | (with_reducible first | exact HB.out | apply below_alloc | apply pw_below_drewN | apply below_drew1) | exact HB.out)⟩
  · replace c5 := Bool.eq_false_iff.mpr c5
    subst c5
    have H1 : (some (([] : List ByteArray), false)) = some (r1, r2) := by rw [if_neg (show ¬ (false = true) by decide)] at H; exact H
    clear H
    have H := H1
    clear H1
    simp only [Option.some.injEq, Prod.mk.injEq] at H
    obtain ⟨rfl, rfl⟩ := H
    go_enter Try.func13, Try.ntmps13
    go_wp2_with (first | ((with_reducible refine gate_callee (f := 24) rfl ?_); refine goesL_ (some 16) rfl rfl Try.func24 (by kernel_rfl) rfl #[.slice A0 l0.length c0, .int .i64 a2] rfl (by (try simp only [List.map_toArray, List.map_cons, List.map_nil]); first | done | rfl | (simp only [List.length_drop, List.length_take]; rfl)) ?_; (with_reducible refine (spec_l13Said.calls k _ _ l0 a2 false _ ?side1 ?side2 A4.out).mono ?_); (case side1 => repeat (first | exact HR0.out | (with_reducible refine Kd.C_alloc ?_ _) | (with_reducible refine Kd.C_drewN ?_ _) | (with_reducible refine Kd.C_drew ?_))); (case side2 => exact HC0.out); rintro e w' ⟨rfl, ⟨nd, rfl⟩⟩; refine ⟨_, rfl, ?_⟩))
    go_ret2
    exact ⟨_, by first | rfl | (simp [errW_none, errW_some] <;> rfl) | (simp [*, errW_none, errW_some] <;> rfl), by first | exact Kd.R_nil _ _ _ _ _ | exact Kd.N_nil _ _ _ _ _ | exact Kd.V_nil _ _ _ _ _ | exact Kd.Q_nil _ _ _ _ _ | exact Kd.S_nil _ _ _ _ _, by repeat (first | (with_reducible first | exact HB.out | apply below_alloc | apply pw_below_drewN | apply below_drew1) | exact HB.out)⟩
end
def breakGo (ws : List ByteArray) : List Int → Nat → Option (List ByteArray)
  | [], a => some (if a < ws.length then [joinB (ws.drop a)] else [])
  | k :: cs, a => if (a : Int) < k ∧ k < (ws.length : Int) then (breakGo ws cs k.toNat).map (fun o => joinB ((ws.take k.toNat).drop a) :: o) else none
def finB (W : Int) : Option (List ByteArray) → List ByteArray × Bool
  | none => ([], false)
  | some o => if o.any (fun s => decide (W < (s.size : Int))) = true then ([], false) else (o, true)
def breakB (ws : List ByteArray) (cuts : List Int) (W : Int) : List ByteArray × Bool := if saidB ws W = true then finB W (breakGo ws cuts 0) else ([], false)

theorem breakGo_length (ws : List ByteArray) (cuts : List Int) : ∀ a, match breakGo ws cuts a with | none => True | some o => o.length ≤ ws.length - a := by
  induction cuts with
  | nil =>
    intro a
    simp only [breakGo]
    split
    · simp only [List.length_singleton]; omega
    · simp
  | cons k cs ih =>
    intro a
    rw [breakGo]
    by_cases h : (a : Int) < k ∧ k < (ws.length : Int)
    · rw [if_pos h]
      have := ih k.toNat
      cases hb : breakGo ws cs k.toNat with
      | none => simp
      | some o => rw [hb] at this; simp only [Option.map_some, List.length_cons]; simp only at this; omega
    · rw [if_neg h]; trivial
theorem breakB_length (ws : List ByteArray) (cuts : List Int) (W : Int) : (breakB ws cuts W).1.length ≤ 60 := by
  unfold breakB
  cases hs : saidB ws W with
  | false => simp
  | true =>
    obtain ⟨h60, _⟩ := saidB_of hs
    have := breakGo_length ws cuts 0
    simp only [if_true]
    cases hb : breakGo ws cuts 0 with
    | none => simp [finB]
    | some o =>
      rw [hb] at this
      simp only at this
      simp only [finB]
      split
      · simp
      · show o.length ≤ 60; omega

theorem specBreak_fits (W : Int) (o : List ByteArray) (ho : o.length ≤ 1000000) (d : Nat) : ∀ i, i + d = o.length → Ev (fun k => spec_BreakAt.l1 k W o o (o.length : Int) (i : Int)) (if (o.drop i).any (fun s => decide (W < (s.size : Int))) = true then (([] : List ByteArray), false) else (o, true)) := by
  induction d with
  | zero =>
    intro i h
    refine Ev.succ ?_
    simp only [spec_BreakAt.l1, if_neg (show ¬ ((i : Int) < (o.length : Int)) by omega)]
    rw [List.drop_eq_nil_of_le (by omega)]
    exact Ev.now _
  | succ d ih =>
    intro i h
    refine Ev.succ ?_
    simp only [spec_BreakAt.l1, if_pos (show ((i : Int) < (o.length : Int)) by omega), if_pos (show (0 : Int) ≤ i by omega), rdOf_get _ o i (by omega)]
    rw [List.drop_eq_getElem_cons (show i < o.length by omega), List.any_cons]
    by_cases hw : W < (o[i].size : Int)
    · simp only [if_pos (show (o[i].size : Int) > W by omega), hw, decide_true, Bool.true_or, if_true]
      exact Ev.now _
    · simp only [if_neg (show ¬ (o[i].size : Int) > W by omega), hw, decide_false, Bool.false_or, w64 (show -9223372036854775808 ≤ (i : Int) + 1 by omega) (by omega)]
      exact ih (i + 1) (by omega)
theorem specBreak_fin (W : Int) (o : List ByteArray) (ho : o.length ≤ 1000000) : Ev (fun k => spec_BreakAt.j1 k W o) (finB W (some o)) := by
  refine Ev.succ ?_
  simp only [spec_BreakAt.j1]
  exact specBreak_fits W o ho o.length 0 (by omega)
theorem specBreak_loop (ws : List ByteArray) (cuts : List Int) (W : Int) (h60 : ws.length ≤ 60) (hs : ∀ s ∈ ws, s.size ≤ 80) (hcl : cuts.length ≤ 1048576) (d : Nat) : ∀ (i a : Nat) (o : List ByteArray), i + d = cuts.length →
    ((i = 0 ∧ a = 0) ∨ (0 < i ∧ (a : Int) = cuts.getD (i - 1) 0)) → a ≤ ws.length → o.length ≤ a →
    Ev (fun k => spec_BreakAt.l0 k ws cuts W o (a : Int) cuts (cuts.length : Int) (i : Int)) (finB W ((breakGo ws (cuts.drop i) a).map (o ++ ·))) := by
  induction d with
  | zero =>
    intro i a o h ha hal hol
    refine Ev.succ ?_
    simp only [spec_BreakAt.l0, if_neg (show ¬ ((i : Int) < (cuts.length : Int)) by omega)]
    rw [show cuts.drop i = [] from List.drop_eq_nil_of_le (by omega), breakGo]
    by_cases hw : a < ws.length
    · simp only [if_pos (show (a : Int) < (ws.length : Int) by omega), if_pos (show (0 : Int) ≤ (a : Int) by omega), if_pos (show (a : Int) ≤ (ws.length : Int) by omega), if_pos hw, Option.map_some, Int.toNat_natCast]
      refine Ev.bind (join_ev (ws.drop a) (by rw [List.length_drop]; omega) (fun s h => by have := hs s (List.mem_of_mem_drop h); omega)) ?_
      simp only [if_pos (show o.length < 8796093022208 by omega)]
      exact specBreak_fin W _ (by rw [List.length_append, List.length_singleton]; omega)
    · simp only [if_neg (show ¬ (a : Int) < (ws.length : Int) by omega), if_neg hw, Option.map_some, List.append_nil]
      exact specBreak_fin W _ (by omega)
  | succ d ih =>
    intro i a o h ha hal hol
    have hi : i < cuts.length := by omega
    refine Ev.succ ?_
    simp only [spec_BreakAt.l0, if_pos (show ((i : Int) < (cuts.length : Int)) by omega), if_pos (show (0 : Int) ≤ i by omega), l1In_val, Option.bind_some, w64 (show -9223372036854775808 ≤ (ws.length : Int) - 1 by omega) (by omega)]
    have hrd : rd cuts (i : Int) = cuts[i] := by simp [rd, List.getD_eq_getElem?_getD, hi]
    rw [List.drop_eq_getElem_cons hi, breakGo]
    simp only [hrd]
    have hnext : ∀ (c : Int) (hc : cuts[i] = c), (a : Int) < c → c < (ws.length : Int) →
        Ev (fun k => if 0 ≤ (a : Int) then (if (a : Int) ≤ c then (if c ≤ (ws.length : Int) then ((spec_l13Join.f k ((ws.take c.toNat).drop (a : Int).toNat)).bind fun t => (if o.length < 8796093022208 then (spec_BreakAt.l0 k ws cuts W (o ++ [t]) c cuts (cuts.length : Int) (wrap64 ((i : Int) + 1))) else (none))) else (none)) else (none)) else (none))
          (finB W (((breakGo ws (cuts.drop (i + 1)) c.toNat).map (fun o' => joinB ((ws.take c.toNat).drop a) :: o')).map (o ++ ·))) := by
      intro c hc h1 h2
      simp only [if_pos (show (0 : Int) ≤ (a : Int) by omega), if_pos (show (a : Int) ≤ c by omega), if_pos (show c ≤ (ws.length : Int) by omega), Int.toNat_natCast]
      refine Ev.bind (join_ev ((ws.take c.toNat).drop a) (by rw [List.length_drop, List.length_take]; omega) (fun s h => by have := hs s (List.mem_of_mem_take (List.mem_of_mem_drop h)); omega)) ?_
      simp only [if_pos (show o.length < 8796093022208 by omega), w64 (show -9223372036854775808 ≤ (i : Int) + 1 by omega) (by omega)]
      have hcn : (c.toNat : Int) = c := by omega
      have := ih (i + 1) c.toNat (o ++ [joinB ((ws.take c.toNat).drop a)]) (by omega) (.inr ⟨by omega, by rw [hcn, Nat.add_sub_cancel, List.getD_eq_getElem?_getD, List.getElem?_eq_getElem hi, ← hc]; rfl⟩) (by omega) (by rw [List.length_append, List.length_singleton]; omega)
      rw [hcn] at this
      refine ev_eq this ?_
      rw [Option.map_map]
      congr 2
      funext o'
      simp
    by_cases hin : 1 ≤ cuts[i] ∧ cuts[i] ≤ (ws.length : Int) - 1
    · simp only [decide_eq_true hin.1, decide_eq_true hin.2, Bool.and_self, if_true]
      rcases ha with ⟨h0, h1⟩ | ⟨h0, h1⟩
      · subst h0; subst h1
        simp only [if_neg (show ¬ ((0 : Nat) : Int) > 0 by omega)]
        rw [if_pos (by omega)]
        exact hnext _ rfl (by omega) (by omega)
      · have hp : rd cuts ((i : Int) - 1) = (a : Int) := by
          rw [h1, show (i : Int) - 1 = ((i - 1 : Nat) : Int) by omega]; simp [rd]
        simp only [if_pos (show (i : Int) > 0 by omega), w64 (show -9223372036854775808 ≤ (i : Int) - 1 by omega) (by omega), if_pos (show (0 : Int) ≤ (i : Int) - 1 by omega), if_pos (show (i : Int) - 1 < (cuts.length : Int) by omega), hp]
        by_cases hlt : (a : Int) < cuts[i]
        · rw [if_pos (show (a : Int) < cuts[i] ∧ cuts[i] < (ws.length : Int) from ⟨hlt, by omega⟩)]
          simp only [if_neg (show ¬ (a : Int) ≥ cuts[i] by omega)]
          exact hnext _ rfl hlt (by omega)
        · rw [if_neg (show ¬ ((a : Int) < cuts[i] ∧ cuts[i] < (ws.length : Int)) from fun h => hlt h.1)]
          simp only [if_pos (show (a : Int) ≥ cuts[i] by omega)]
          exact Ev.now _
    · have hf : (decide (1 ≤ cuts[i]) && decide (cuts[i] ≤ (ws.length : Int) - 1)) = false := by
        rw [Bool.eq_false_iff]; intro h; rw [Bool.and_eq_true] at h; exact hin ⟨of_decide_eq_true h.1, of_decide_eq_true h.2⟩
      simp only [hf, Bool.false_eq_true, if_false]
      rw [if_neg (by omega)]
      exact Ev.now _
theorem spec_BreakAt_ev (ws : List ByteArray) (cuts : List Int) (W : Int) (hl : ws.length ≤ maxLen) (hs : ∀ s ∈ ws, s.size ≤ maxLen) (hcl : cuts.length ≤ 1048576) : Ev (fun k => spec_BreakAt.f k ws cuts W) (breakB ws cuts W) := by
  unfold spec_BreakAt.f breakB
  refine Ev.bind (said_ev ws W hl hs) ?_
  cases hq : saidB ws W with
  | false => simp only [Bool.false_eq_true, if_false]; exact Ev.now _
  | true =>
    obtain ⟨g1, g2, _⟩ := saidB_of hq
    simp only [if_true]
    have := specBreak_loop ws cuts W g1 (fun s h => (g2 s h).2.1) hcl cuts.length 0 0 [] (by omega) (.inl ⟨rfl, rfl⟩) (by omega) (Nat.le_refl _)
    refine ev_eq this ?_
    rw [List.drop_zero]
    congr 1
    cases breakGo ws cuts 0 <;> simp
def slices_Clone_int_int.f (l0 : List Int) : Option (List Int) := if l0.length ≤ 2000000 then some l0 else none
theorem ints_cells {w : World} {ad : Addr} {l : List Int} (h : Kd.C (Kd.int .i64) w (some ad) l.length l) : ∀ j u, (encs (Value.int .i64) l)[j]? = some u → w.cell? (ad.add j) = some u := by
  intro j u hj
  obtain ⟨hlt, hv⟩ := List.getElem?_eq_some_iff.1 hj
  have hlt' : j < l.length := by simpa [encs] using hlt
  obtain ⟨ad', e, hc⟩ := Kd.at_int h (j : Int) (by omega) (by omega)
  obtain rfl : ad = ad' := by injection e
  rw [Int.toNat_natCast] at hc
  rw [hc, ← hv]
  simp [encs, rd, List.getD_eq_getElem?_getD, hlt']
theorem ints_one (l : List Int) : ∀ u ∈ encs (Value.int .i64) l, u.oneCell' = true := by
  intro u hu
  simp only [encs, List.mem_map] at hu
  obtain ⟨x, _, rfl⟩ := hu
  rfl
set_option maxHeartbeats 2000000 in
theorem slices_Clone_int_int.calls (A0 : Option Addr) (c0 : Nat) (l0 : List Int) (r : List Int) (w : World) (hr0 : Kd.C (Kd.int .i64) w A0 l0.length l0) (hc0 : l0.length ≤ c0) (h : slices_Clone_int_int.f l0 = some r) :
    Calls Try.prog 31 #[.slice A0 l0.length c0] w fun e w' => ∃ v0_ : Value, e = .returned (v0_) ∧ Kd.R (Kd.int .i64) 3 w' w.heap.size (fun _ => True) v0_ r ∧ Below w.heap.size w w' := by
  unfold slices_Clone_int_int.f at h
  by_cases hlen : l0.length ≤ 2000000
  · rw [if_pos hlen] at h
    obtain rfl := Option.some.inj h
    have q22 : ∀ (w : World) (a : Option Addr) (n c n' c' : Nat), (binOp .eql 33 (.slice a n c) (.slice none n' c')).run Try.prog w = .ok (.bool a.isNone) w := fun w a n c n' c' => Lib.run_eql_slice_nil w _ _ a n c n' c' Try.underlying33
    cases A0 with
    | none =>
      have h0 : l0 = [] := by
        rcases Nat.eq_zero_or_pos l0.length with h | h
        · exact List.eq_nil_of_length_eq_zero h
        · obtain ⟨_, e, _⟩ := hr0.2.2 h; cases e
      subst h0
      clear hr0 hc0 h
      go_enter Try.func31, Try.ntmps31
      go_wp2
      go_ret
      exact ⟨_, rfl, Kd.R_nil _ _ _ _ _, Below.refl _ _⟩
    | some ad =>
      obtain ⟨i0, hi, hzz⟩ := Option.map_eq_some_iff.1 info3
      simp only [Prod.mk.injEq] at hzz
      obtain ⟨hz0, hz1, hz2⟩ := hzz
      have HA := mz (ints_cells hr0)
      have HI := mz hi
      have HZ0 := mz hz0
      have HZ1 := mz hz1
      have HZ2 := mz hz2
      clear hr0 hc0 h hi hz0 hz1 hz2
      go_enter Try.func31, Try.ntmps31
      go_wp2_with (at_builtin; refine wpList_append_own _ rfl _ _ 33 rfl w.heap.size 3 i0 (.int .i64 0) 1 8 Try.underlying33 HI.out HZ0.out HZ1.out HZ2.out rfl (by decide) _ _ _ rfl (World.ownsRow_made w #[] 0 (Nat.le_refl _) (Nat.zero_le _) (by simp)) ad l0.length c0 (encs (Value.int .i64) l0) rfl ?qc1 ?qc2 ?qc3 ?qc4 ?qc5 ?qc6 ?_)
      case qc1 => simp [encs]
      case qc2 =>
        intro j u hj
        exact Lib.cell?_alloc_some _ (HA.out j u hj)
      case qc3 => exact ints_one l0
      case qc4 => unfold maxLen; omega
      case qc5 => omega
      case qc6 => simp
      intro v' w1 hown hgrow hnil
      go_wp2
      go_ret
      refine ⟨v', rfl, Kd.R_of_own (by simpa using hown) (fun _ _ => trivial), ?_⟩
      exact ((Below.refl _ w).alloc (Nat.le_refl _) _).grown hgrow (by simp) (by intro k hk; simp [Value.ownBlock] at hk; omega)
  · rw [if_neg hlen] at h
    exact absurd h (by simp)
theorem breakAt_pred (l : List ByteArray) (hl : ∀ s ∈ l, s.size ≤ maxLen) (a : Int) (B : Nat) (w : World) (hB : B < w.heap.size) (hc : w.cell? ⟨B, 0, none⟩ = some (.int .i64 a)) : PredStr 33 #[.pointer (some ⟨B, 0, none⟩)] (fun s => decide (a < (s.size : Int))) l w := by
  intro W x hx hb
  have hs := hl x hx
  simp only [maxLen] at hs
  have hc' : W.cell? ⟨B, 0, none⟩ = some (.int .i64 a) := (hb.cell (p := ⟨B, 0, none⟩) hB).trans hc
  have HB := mz hb
  clear hb hc
  go_enter Try.func33, Try.ntmps33
  go_wp2
  go_ret
  exact ⟨rfl, HB.out⟩
theorem joinI_mid {A : Option Addr} {c : Nat} {ws : List ByteArray} {w : World} (HR : Kd.C Kd.string w A ws.length ws) (HC : ws.length ≤ c) (hn : ws.length ≤ 60) (HSZ : ∀ s ∈ ws, s.size ≤ 80) (i q : Nat) (hq : 1 ≤ q) (hiq : i + q ≤ ws.length) :
    ∀ W' : World, Below w.heap.size w W' → Calls Try.prog 23 #[.slice (Option.map (fun x => x.add i) A) q (c - i), .string ⟨#[32]⟩] W' fun e w' => e = .returned (.string (joinB ((ws.take (i + q)).drop i))) ∧ Below W'.heap.size W' w' := by
  intro W' hb
  obtain ⟨l', hl'⟩ : ∃ l', l' = (ws.take (i + q)).drop i := ⟨_, rfl⟩
  have hll : l'.length = q := by rw [hl', List.length_drop, List.length_take]; omega
  have CD : Kd.C Kd.string w (A.map (·.add (i * 1))) l'.length l' := by rw [hl']; have := Kd.C_mid (lo := i) (hi := i + q) (c := c) HR (by omega) hiq HC; rwa [if_neg (by omega)] at this
  have hls : ∀ s ∈ l', s.size ≤ 80 := fun s h => HSZ s (by rw [hl'] at h; exact List.mem_of_mem_take (List.mem_of_mem_drop h))
  rw [← hl']
  have := joinC (A.map (·.add (i * 1))) (c - i) l' W' (Kd.C_below CD hb) (by omega) (by omega) hls (by intro h; rw [h] at hll; simp at hll; omega)
  rw [hll] at this
  simpa only [Nat.mul_one] using this
def okLines (o : List ByteArray) : Prop := ∀ s ∈ o, s.size ≤ maxLen
theorem okLines.snoc {o : List ByteArray} {ws : List ByteArray} (h : okLines o) (hn : ws.length ≤ 60) (hs : ∀ s ∈ ws, s.size ≤ 80) (i q : Nat) : okLines (o ++ [joinB ((ws.take q).drop i)]) := by
  intro s hs2
  rcases List.mem_append.1 hs2 with h1 | h1
  · exact h s h1
  · rw [List.mem_singleton.1 h1]
    have := joinB_size ((ws.take q).drop i) (by rw [List.length_drop, List.length_take]; omega) (fun s h => hs s (List.mem_of_mem_take (List.mem_of_mem_drop h)))
    unfold maxLen; omega

set_option maxHeartbeats 8000000 in
set_option maxRecDepth 100000 in
theorem breakAt_walk (A : Option Addr) (c : Nat) (ws : List ByteArray) (A1 : Option Addr) (c1 : Nat) (cuts : List Int) (W : Int) (w : World) (hr : Kd.C Kd.string w A ws.length ws) (hc : ws.length ≤ c) (hr1 : Kd.C (Kd.int .i64) w A1 cuts.length cuts) (hc1 : cuts.length ≤ c1) (hs : ∀ s ∈ ws, s.size ≤ maxLen) (hcl : cuts.length ≤ 2000000) :
    Calls Try.prog 12 #[.slice A ws.length c, .slice A1 cuts.length c1, .int .i64 W] w fun e w' => ∃ v0_ : Value, e = .returned (.tuple #[v0_, .bool (breakB ws cuts W).2]) ∧ Kd.R Kd.string 9 w' w.heap.size (fun _ => True) v0_ (breakB ws cuts W).1 ∧ Below w.heap.size w w' := by
  have HR := mz hr
  have HC := mz hc
  have hfit := allFit_val ws W hs
  have HX1 := mz hr1
  have HC1 := mz hc1
  have HRA := mz (fun o : Obj => Kd.C_below hr ((Below.refl w.heap.size w).alloc (Nat.le_refl _) o))
  clear hr hc hr1 hc1
  cases hsd : saidB ws W with
  | false =>
    have hres : breakB ws cuts W = ([], false) := by simp [breakB, hsd]
    rw [hres]
    rw [hsd] at hfit
    have HF := mz hfit
    clear hfit hsd hres
    go_enter Try.func12, Try.ntmps12
    go_wp2_with fail
    refine (impl_allFit.calls A c ws W false _ (HRA.out _) HC.out HF.out).mono ?_
    rintro e w1 ⟨rfl, hb⟩
    have hcw : w1.cell? ⟨w.heap.size, 0, none⟩ = some (.int .i64 W) := (hb.cell (p := ⟨w.heap.size, 0, none⟩) (by simp)).trans (by simp)
    have hz1 : w.heap.size + 1 ≤ w1.heap.size := Nat.le_trans (by simp) hb.size
    have B1 := mz (below_then ((Below.refl w.heap.size w).alloc (Nat.le_refl _) _) (by simp) hb)
    have CW := mz hcw
    clear hb hcw HRA
    go_wp2_with fail
    go_ret2
    exact ⟨.slice none 0 0, rfl, Kd.R_nil _ _ _ _ _, B1.out⟩
  | true =>
    obtain ⟨hn60, hsz, hW1, hW80, _⟩ := saidB_of hsd
    have hres : breakB ws cuts W = finB W (breakGo ws cuts 0) := by simp [breakB, hsd]
    rw [hres]
    rw [hsd] at hfit
    have HF := mz hfit
    have HSZ := mz hsz
    clear hfit hsd hres hsz
    have hs80 : ∀ s ∈ ws, s.size ≤ 80 := fun s h => (HSZ.out s h).2.1
    have HS80 := mz hs80
    have HJM := mz (fun i q h1 h2 => joinI_mid HR.out HC.out hn60 hs80 i q h1 h2)
    clear hs80 hs
    have HCLN : Aside0 (slices_Clone_int_int.f cuts = some cuts) := ⟨by unfold slices_Clone_int_int.f; rw [if_pos hcl]⟩
    go_enter Try.func12, Try.ntmps12
    go_wp2_with fail
    refine (impl_allFit.calls A c ws W true _ (HRA.out _) HC.out HF.out).mono ?_
    rintro e w1 ⟨rfl, hb⟩
    have hcw : w1.cell? ⟨w.heap.size, 0, none⟩ = some (.int .i64 W) := (hb.cell (p := ⟨w.heap.size, 0, none⟩) (by simp)).trans (by simp)
    have hz1 : w.heap.size + 1 ≤ w1.heap.size := Nat.le_trans (by simp) hb.size
    have B1 := mz (below_then ((Below.refl w.heap.size w).alloc (Nat.le_refl _) _) (by simp) hb)
    have CW := mz hcw
    clear hb hcw HRA
    go_wp2_with fail
    refine (slices_Clone_int_int.calls A1 c1 cuts cuts _ (Kd.C_below HX1.out B1.out) HC1.out HCLN.out).mono ?_
    rintro e w2 ⟨v17, rfl, hR2, hb2⟩
    have RC2 := mz hR2
    have B2 := mz hb2
    clear hR2 hb2
    go_wp2_with ((with_reducible refine gate_builtin (b := .append) (xs := #[.tmp 17, .tmp 20]) rfl ?_); at_builtin; refine Kd.R_append (Kd.int .i64) (w0 := w1) w1.heap.size rfl (.tmp 17) (.tmp 20) 33 3 (.int .i64 0) 8 rfl Try.underlying33 info3 rfl (by decide) (by omega) _ cuts (ws.length : Int) [.int .i64 (ws.length : Int)] (fun _ => True) (fun _ => False) rfl rfl ?aP (fun _ hk => hk.elim) ?aF ?aO ?aB ?aS ?aL ?_; (case aP => exact rfl); (case aB => exact B2.out); (case aF => exact (fun _ _ => trivial)); (case aO => exact RC2.out); (case aS => exact B2.out.size); (case aL => omega); intro v4 w4 ho hb hg hat; obtain ⟨A21, c21, hv, hcl21, _⟩ := Kd.R_reads ho; rw [show (cuts ++ [(ws.length : Int)]).length = cuts.length + 1 from by rw [List.length_append, List.length_singleton]] at hv hcl21; subst hv; have RC := mz ho; have BW := mz hb; clear ho hb hg hat)
    clear RC2 B2
    have hlc : ((cuts.length + 1 : Nat) : Int) = (cuts.length : Int) + 1 := by omega
    go_loopg [8, 9, 11, 23] (cuts.length + 2) (fun gg z8 z9 z11 z23 wr => ∃ (v : Value) (j a : Nat) (o : List ByteArray), v = z8 ∧ z9 = .int .i64 (a : Int) ∧ z23 = .int .i64 (j : Int) ∧ cuts.length + 1 - j ≤ gg ∧ o.length ≤ a ∧ a ≤ ws.length ∧ (j = 0 → a = 0) ∧ Aside0 (okLines o) ∧ Aside0 (Kd.R Kd.string 9 wr w1.heap.size (fun _ => True) v o) ∧ Aside0 (Kd.R (Kd.int .i64) 3 wr w1.heap.size (fun _ => True) (.slice A21 (cuts.length + 1) c21) (cuts ++ [(ws.length : Int)])) ∧ Aside0 (Below w1.heap.size w1 wr) ∧ ((j ≤ cuts.length ∧ o.length = j ∧ (a < ws.length ∨ j = 0) ∧ Aside0 (breakGo ws cuts 0 = (breakGo ws (cuts.drop j) a).map (o ++ ·))) ∨ (j = cuts.length + 1 ∧ Aside0 (breakGo ws cuts 0 = some o))))
    case atStart => exact ⟨_, 0, 0, [], rfl, rfl, rfl, by omega, Nat.le_refl _, Nat.zero_le _, fun _ => rfl, ⟨fun s h => absurd h (by simp)⟩, ⟨Kd.R_nil _ _ _ _ _⟩, RC, BW, .inl ⟨Nat.zero_le _, rfl, .inr rfl, ⟨by rw [List.drop_zero]; cases breakGo ws cuts 0 <;> simp⟩⟩⟩
    case round =>
      clear BW RC
      obtain ⟨v, j, a, o, rfl, rfl, rfl, hgj, hoa, haw, hj0, OKL, RO, RC, BW, hdis⟩ := hrel
      by_cases hjl : j ≤ cuts.length
      · obtain ⟨hoj, haz, GO⟩ : o.length = j ∧ (a < ws.length ∨ j = 0) ∧ Aside0 (breakGo ws cuts 0 = (breakGo ws (cuts.drop j) a).map (o ++ ·)) := by
          rcases hdis with h | h
          · exact h.2
          · omega
        clear hdis
        have hjz : (j : Int) < (cuts.length : Int) + 1 := by omega
        obtain ⟨ad, e1, hx⟩ := Kd.at_int (Kd.R_reads' RC.out).2.2 (j : Int) (by omega) (by rw [List.length_append, List.length_singleton]; omega)
        subst e1
        rw [Int.toNat_natCast] at hx
        by_cases hjlt : j < cuts.length
        · have hrd : rd (cuts ++ [(ws.length : Int)]) (j : Int) = cuts[j] := by simp [rd, List.getD_eq_getElem?_getD, List.getElem?_append_left hjlt, hjlt]
          rw [hrd] at hx
          have hgo := GO.out
          rw [List.drop_eq_getElem_cons hjlt, breakGo] at hgo
          clear hrd GO
          generalize cuts[j] = kc at hx hgo
          have hcz : ¬ (cuts.length : Int) = 0 := by omega
          by_cases hok : (a : Int) < kc ∧ kc < (ws.length : Int)
          · rw [if_pos hok] at hgo
            obtain ⟨q, hq⟩ : ∃ q : Nat, kc = (a : Int) + (q : Int) := ⟨(kc - a).toNat, by omega⟩
            subst hq
            have hq1 : 1 ≤ q := by omega
            have hqw : a + q < ws.length := by omega
            have hqc : a + q ≤ c := Nat.le_trans (by omega) HC.out
            have hkn : ((a : Int) + (q : Int)).toNat = a + q := by omega
            rw [hkn] at hgo
            have hj := HJM.out a q hq1 (by omega)
            have hok2 := okLines.snoc OKL.out hn60 HS80.out a (a + q)
            generalize joinB ((ws.take (a + q)).drop a) = jb at hj hgo hok2
            have GO2 : Aside0 (breakGo ws cuts 0 = (breakGo ws (cuts.drop (j + 1)) (a + q)).map ((o ++ [jb]) ++ ·)) := ⟨by rw [hgo, Option.map_map]; congr 1; funext o'; simp⟩
            have HJ := mz hj
            have OKN := mz hok2
            clear hj hgo hok hok2
            have hk1 : ¬ (a : Int) + (q : Int) = (ws.length : Int) := by omega
            have hk2 : ¬ (a : Int) + (q : Int) ≤ (a : Int) := by omega
            have hk3 : (a : Int) + (q : Int) ≤ (ws.length : Int) := by omega
            have hk4 : (a : Int) ≤ (a : Int) + (q : Int) := by omega
            have hk5 : (a : Int) + (q : Int) ≤ (c : Int) := by omega
            have haz0 : (0 : Int) ≤ (a : Int) := by omega
            go_wp2_with fail
            refine (HJ.out _ (below_then B1.out (by omega) BW.out)).mono ?_
            rintro e w3 ⟨rfl, hb⟩
            have BW3 := mz (below_step BW.out hb)
            have RO3 := mz (Kd.R_below RO.out hb)
            have RC3 := mz (Kd.R_below RC.out hb)
            clear hb hx
            go_wp2_with ((with_reducible refine gate_builtin (b := .append) (xs := #[.tmp 63, .tmp 69]) rfl ?_); at_builtin; refine Kd.R_append Kd.string (w0 := w1) w1.heap.size rfl (.tmp 63) (.tmp 69) 23 9 (.string ⟨#[]⟩) 16 rfl Try.underlying23 info9 rfl (by decide) (by omega) _ o jb [.string jb] (fun _ => True) (fun _ => False) rfl rfl ?aP (fun _ hk => hk.elim) ?aF ?aO ?aB ?aS ?aL ?_; (case aP => exact rfl); (case aB => exact BW3.out); (case aF => exact (fun _ _ => trivial)); (case aO => exact RO3.out); (case aS => exact BW3.out.size); (case aL => omega); intro v4 w4 ho hb hg hat; have RO4 := mz ho; have BW4 := mz hb; have RC4 := mz (Kd.R_over' RC3.out (Kd.R_typed RO3.out) (by decide) hg); clear ho hb hg hat)
            go_roundg (cuts.length + 1 - (j + 1))
            case measure => omega
            case rel => exact ⟨_, j + 1, a + q, o ++ [jb], rfl, (by first | rfl | go_num | (congr 1; omega)), (by first | go_num | (congr 1; unfold wrap64; omega)), by omega, (by rw [List.length_append, List.length_singleton]; omega), by omega, (fun h => absurd h (by omega)), OKN, RO4, RC4, BW4, .inl ⟨by omega, by rw [List.length_append, List.length_singleton, hoj], .inl hqw, GO2⟩⟩
          · rw [if_neg hok] at hgo
            have NONE : Aside0 (breakGo ws cuts 0 = none) := ⟨hgo⟩
            clear hgo
            by_cases hkl : kc ≤ (a : Int)
            · cases hkw : (kc == (ws.length : Int)) with
              | true =>
                have hczb : ((cuts.length : Int) == 0) = false := by simpa using hcz
                have HKW := mz hok
                clear hcz hok
                cases hw0 : ((ws.length : Int) == 0) with
                | true =>
                  go_wp2_with fail
                  go_ret2
                  have hfin : finB W (breakGo ws cuts 0) = ([], false) := by rw [NONE.out]; rfl
                  rw [hfin]
                  exact ⟨.slice none 0 0, rfl, Kd.R_nil _ _ _ _ _, below_then B1.out (by omega) BW.out⟩
                | false =>
                  go_wp2_with fail
                  go_ret2
                  have hfin : finB W (breakGo ws cuts 0) = ([], false) := by rw [NONE.out]; rfl
                  rw [hfin]
                  exact ⟨.slice none 0 0, rfl, Kd.R_nil _ _ _ _ _, below_then B1.out (by omega) BW.out⟩
              | false =>
                go_wp2_with fail
                go_ret2
                have hfin : finB W (breakGo ws cuts 0) = ([], false) := by rw [NONE.out]; rfl
                rw [hfin]
                exact ⟨.slice none 0 0, rfl, Kd.R_nil _ _ _ _ _, below_then B1.out (by omega) BW.out⟩
            · by_cases hkg : kc > (ws.length : Int)
              · have hkw : (kc == (ws.length : Int)) = false := by simp; omega
                go_wp2_with fail
                go_ret2
                have hfin : finB W (breakGo ws cuts 0) = ([], false) := by rw [NONE.out]; rfl
                rw [hfin]
                exact ⟨.slice none 0 0, rfl, Kd.R_nil _ _ _ _ _, below_then B1.out (by omega) BW.out⟩
              · have hka0 : (a : Int) < kc := by omega
                have hke : kc = (ws.length : Int) := by omega
                subst hke
                have hoc : (o.length : Int) < (cuts.length : Int) := by omega
                obtain ⟨A8, c8, hv, hcl8, hC8⟩ := Kd.R_reads RO.out
                subst hv
                clear hC8 hcl8 hkl hkg
                have hka : ¬ (ws.length : Int) ≤ (a : Int) := by omega
                have hczb : ((cuts.length : Int) == 0) = false := by simpa using hcz
                have HKW := mz hok
                clear hcz hok
                cases hw0 : ((ws.length : Int) == 0) with
                | true =>
                  go_wp2_with fail
                  go_ret2
                  have hfin : finB W (breakGo ws cuts 0) = ([], false) := by rw [NONE.out]; rfl
                  rw [hfin]
                  exact ⟨.slice none 0 0, rfl, Kd.R_nil _ _ _ _ _, below_then B1.out (by omega) BW.out⟩
                | false =>
                  go_wp2_with fail
                  go_ret2
                  have hfin : finB W (breakGo ws cuts 0) = ([], false) := by rw [NONE.out]; rfl
                  rw [hfin]
                  exact ⟨.slice none 0 0, rfl, Kd.R_nil _ _ _ _ _, below_then B1.out (by omega) BW.out⟩
        · have hje : j = cuts.length := by omega
          subst hje
          have hrd : rd (cuts ++ [(ws.length : Int)]) (cuts.length : Int) = (ws.length : Int) := by simp [rd, List.getD_eq_getElem?_getD]
          rw [hrd] at hx
          clear hrd
          have hgo := GO.out
          rw [List.drop_eq_nil_of_le (Nat.le_refl _), breakGo, Option.map_some] at hgo
          clear GO
          by_cases hw0 : ws.length = 0
          · have hc0 : cuts.length = 0 := by omega
            have hw0z : ((ws.length : Int) == 0) = true := by simp; exact List.eq_nil_of_length_eq_zero hw0
            have hc0z : ((cuts.length : Int) == 0) = true := by simp; exact List.eq_nil_of_length_eq_zero hc0
            have SM : Aside0 (breakGo ws cuts 0 = some o) := ⟨by rw [hgo, if_neg (by omega), List.append_nil]⟩
            clear hgo hw0 hc0 hoj
            obtain ⟨A8, c8, hv, hcl8, hC8⟩ := Kd.R_reads RO.out
            subst hv
            have HC8 := mz hC8
            clear hC8 hcl8
            have hcwr : wr.cell? ⟨w.heap.size, 0, none⟩ = some (.int .i64 W) := (BW.out.cell (p := ⟨w.heap.size, 0, none⟩) (by show w.heap.size < w1.heap.size; omega)).trans CW.out
            have hbs : w.heap.size < wr.heap.size := by have := BW.out.size; omega
            have hpr := breakAt_pred o OKL.out W w.heap.size wr hbs hcwr
            have HPR := mz hpr
            clear hpr hcwr
            go_wp2_with fail
            refine (containsFunc_str 33 _ _ A8 c8 o _ HC8.out HPR.out (Go.Proofs.enters_of Try.func33 (by kernel_rfl) rfl)).mono ?_
            rintro e w5 ⟨rfl, hb5⟩
            have B5 := mz (below_step BW.out hb5)
            have R5 := mz (Kd.R_lower (Kd.R_below RO.out hb5) (show w.heap.size ≤ w1.heap.size by omega))
            clear hb5
            have hso := SM.out
            cases hany : o.any (fun s => decide (W < (s.size : Int))) with
            | true =>
              have hfin : finB W (breakGo ws cuts 0) = ([], false) := by rw [hso, finB, if_pos hany]
              have HFIN := mz hfin
              clear hfin hany hso
              go_wp2_with fail
              go_ret2
              rw [HFIN.out]
              exact ⟨.slice none 0 0, rfl, Kd.R_nil _ _ _ _ _, below_then B1.out (by omega) B5.out⟩
            | false =>
              have hfin : finB W (breakGo ws cuts 0) = (o, true) := by rw [hso, finB, if_neg (by rw [hany]; decide)]
              have HFIN := mz hfin
              clear hfin hany hso
              go_wp2_with fail
              go_ret2
              rw [HFIN.out]
              exact ⟨_, rfl, R5.out, below_then B1.out (by omega) B5.out⟩
          · have haw2 : a < ws.length := by rcases haz with h | h; exact h; have := hj0 h; omega
            rw [if_pos haw2] at hgo
            have hw0z : ¬ (ws.length : Int) = 0 := by omega
            have hj := HJM.out a (ws.length - a) (by omega) (by omega)
            rw [show a + (ws.length - a) = ws.length by omega, List.take_length] at hj
            have hok2 := okLines.snoc OKL.out hn60 HS80.out a ws.length
            rw [List.take_length] at hok2
            generalize joinB (ws.drop a) = jb at hj hgo hok2
            have HJ := mz hj
            have OKN := mz hok2
            have GO2 := mz hgo
            clear hj hgo hok2
            have hk2 : ¬ (ws.length : Int) ≤ (a : Int) := by omega
            have hk4 : (a : Int) ≤ (ws.length : Int) := by omega
            have hk5 : (ws.length : Int) ≤ (c : Int) := by have := HC.out; omega
            have haz0 : (0 : Int) ≤ (a : Int) := by omega
            have hoc : ¬ (o.length : Int) < (cuts.length : Int) := by omega
            have HOJ := mz hoj
            clear hoj
            obtain ⟨A8, c8, hv, hcl8, hC8⟩ := Kd.R_reads RO.out
            subst hv
            clear hC8 hcl8
            go_wp2_with fail
            refine (HJ.out _ (below_then B1.out (by omega) BW.out)).mono ?_
            rintro e w3 ⟨rfl, hb⟩
            have BW3 := mz (below_step BW.out hb)
            have RO3 := mz (Kd.R_below RO.out hb)
            have RC3 := mz (Kd.R_below RC.out hb)
            clear hb hx
            go_wp2_with ((with_reducible refine gate_builtin (b := .append) (xs := #[.tmp 63, .tmp 69]) rfl ?_); at_builtin; refine Kd.R_append Kd.string (w0 := w1) w1.heap.size rfl (.tmp 63) (.tmp 69) 23 9 (.string ⟨#[]⟩) 16 rfl Try.underlying23 info9 rfl (by decide) (by omega) _ o jb [.string jb] (fun _ => True) (fun _ => False) rfl rfl ?aP (fun _ hk => hk.elim) ?aF ?aO ?aB ?aS ?aL ?_; (case aP => exact rfl); (case aB => exact BW3.out); (case aF => exact (fun _ _ => trivial)); (case aO => exact RO3.out); (case aS => exact BW3.out.size); (case aL => omega); intro v4 w4 ho hb hg hat; have RO4 := mz ho; have BW4 := mz hb; have RC4 := mz (Kd.R_over' RC3.out (Kd.R_typed RO3.out) (by decide) hg); clear ho hb hg hat)
            go_roundg (cuts.length + 1 - (cuts.length + 1))
            case measure => omega
            case rel => exact ⟨_, cuts.length + 1, ws.length, o ++ [jb], rfl, (by first | rfl | go_num | (congr 1; omega)), (by first | go_num | (congr 1; unfold wrap64; omega)), by omega, (by rw [List.length_append, List.length_singleton]; omega), by omega, (fun h => absurd h (by omega)), OKN, RO4, RC4, BW4, .inr ⟨rfl, GO2⟩⟩
      · have hje : j = cuts.length + 1 := by
          rcases hdis with h | h
          · omega
          · exact h.1
        have SM : Aside0 (breakGo ws cuts 0 = some o) := by
          rcases hdis with h | h
          · omega
          · exact h.2
        clear hdis
        subst hje
        have hjz : ¬ ((cuts.length + 1 : Nat) : Int) < (cuts.length : Int) + 1 := by omega
        obtain ⟨A8, c8, hv, hcl8, hC8⟩ := Kd.R_reads RO.out
        subst hv
        have HC8 := mz hC8
        clear hC8 hcl8
        have hcwr : wr.cell? ⟨w.heap.size, 0, none⟩ = some (.int .i64 W) := (BW.out.cell (p := ⟨w.heap.size, 0, none⟩) (by show w.heap.size < w1.heap.size; omega)).trans CW.out
        have hbs : w.heap.size < wr.heap.size := by have := BW.out.size; omega
        have hpr := breakAt_pred o OKL.out W w.heap.size wr hbs hcwr
        have HPR := mz hpr
        clear hpr hcwr
        go_wp2_with fail
        refine (containsFunc_str 33 _ _ A8 c8 o _ HC8.out HPR.out (Go.Proofs.enters_of Try.func33 (by kernel_rfl) rfl)).mono ?_
        rintro e w5 ⟨rfl, hb5⟩
        have B5 := mz (below_step BW.out hb5)
        have R5 := mz (Kd.R_lower (Kd.R_below RO.out hb5) (show w.heap.size ≤ w1.heap.size by omega))
        clear hb5
        have hso := SM.out
        cases hany : o.any (fun s => decide (W < (s.size : Int))) with
        | true =>
          have hfin : finB W (breakGo ws cuts 0) = ([], false) := by rw [hso, finB, if_pos hany]
          have HFIN := mz hfin
          clear hfin hany hso
          go_wp2_with fail
          go_ret2
          rw [HFIN.out]
          exact ⟨.slice none 0 0, rfl, Kd.R_nil _ _ _ _ _, below_then B1.out (by omega) B5.out⟩
        | false =>
          have hfin : finB W (breakGo ws cuts 0) = (o, true) := by rw [hso, finB, if_neg (by rw [hany]; decide)]
          have HFIN := mz hfin
          clear hfin hany hso
          go_wp2_with fail
          go_ret2
          rw [HFIN.out]
          exact ⟨_, rfl, R5.out, below_then B1.out (by omega) B5.out⟩

def impl_BreakAt.f (l0 : List ByteArray) (l1 : List Int) (a2 : Int) : Option (List ByteArray × Bool) := if (l0.all (fun s => decide (s.size ≤ maxLen)) && decide (l1.length ≤ 2000000)) = true then some (breakB l0 l1 a2) else none
theorem impl_BreakAt.calls (A0 : Option Addr) (c0 : Nat) (l0 : List ByteArray) (A1 : Option Addr) (c1 : Nat) (l1 : List Int) (a2 : Int) (r1 : List ByteArray) (r2 : Bool) (w : World) (hr0 : Kd.C Kd.string w A0 l0.length l0) (hc0 : l0.length ≤ c0) (hr1 : Kd.C (Kd.int .i64) w A1 l1.length l1) (hc1 : l1.length ≤ c1) (h : impl_BreakAt.f l0 l1 a2 = some (r1, r2)) :
    Calls Try.prog 12 #[.slice A0 l0.length c0, .slice A1 l1.length c1, .int .i64 a2] w fun e w' => ∃ v0_ : Value, e = .returned (.tuple #[v0_, .bool r2]) ∧ Kd.R Kd.string 9 w' w.heap.size (fun _ => True) v0_ r1 ∧ Below w.heap.size w w' := by
  unfold impl_BreakAt.f at h
  by_cases hs : (l0.all (fun s => decide (s.size ≤ maxLen)) && decide (l1.length ≤ 2000000)) = true
  · rw [if_pos hs] at h
    simp only [Option.some.injEq] at h
    rw [Bool.and_eq_true] at hs
    have := breakAt_walk A0 c0 l0 A1 c1 l1 a2 w hr0 hc0 hr1 hc1 (fun s h2 => of_decide_eq_true (List.all_eq_true.1 hs.1 s h2)) (of_decide_eq_true hs.2)
    rw [h] at this
    exact this
  · rw [if_neg hs] at h; exact absurd h (by simp)
theorem impl_BreakAt.val (l0 : List ByteArray) (l1 : List Int) (a2 : Int) (hs : ∀ s ∈ l0, s.size ≤ maxLen) (hl : l1.length ≤ 2000000) : impl_BreakAt.f l0 l1 a2 = some (breakB l0 l1 a2) := by
  unfold impl_BreakAt.f
  rw [if_pos (by rw [Bool.and_eq_true]; exact ⟨List.all_eq_true.2 fun s h => decide_eq_true (hs s h), decide_eq_true hl⟩)]
def szB (l : List ByteArray) (n : Nat) : Int := (((l.take n).map (fun s => s.size + 1)).sum : Nat) - 1
theorem szB_succ (l : List ByteArray) (n : Nat) (h : n < l.length) : szB l (n + 1) = szB l n + (1 + (l[n].size : Int)) := by
  unfold szB
  rw [List.take_succ_eq_append_getElem h, List.map_append, List.sum_append]
  simp only [List.map_cons, List.map_nil, List.sum_cons, List.sum_nil]
  omega
theorem szB_ge (l : List ByteArray) (n : Nat) : -1 ≤ szB l n := by
  unfold szB; omega
theorem szB_join (l : List ByteArray) (n : Nat) (h : n < l.length) : ((joinB (l.take (n + 1))).size : Int) = szB l (n + 1) := by
  unfold szB
  cases l with
  | nil => simp at h
  | cons s l =>
    rw [List.take_succ_cons, joinB, joinGo_size, List.map_cons, List.sum_cons]
    omega
def dnC (W : Int) (l : List ByteArray) (t : List Bst) (n : Nat) : Bst := dnB W (l.drop n) (t.drop n) (szB l n) (n : Int)
def xC (W : Int) (l : List ByteArray) (t : List Bst) (n : Nat) : Bst := ⟨if l.length ≤ n + 1 then (t.getD n zB).c else (t.getD n zB).c + sqB (W - szB l (n + 1)), (t.getD n zB).l + 1, (n : Int) + 1⟩
theorem dnC_end (W : Int) (l : List ByteArray) (t : List Bst) : dnC W l t l.length = zB := by
  unfold dnC
  rw [List.drop_eq_nil_of_le (Nat.le_refl _)]
  rfl
theorem dnC_step (W : Int) (l : List ByteArray) (t : List Bst) (n : Nat) (h : n < l.length) (ht : n < t.length) :
    dnC W l t n = if W < szB l (n + 1) then dnC W l t (n + 1) else if (dnC W l t (n + 1)).n = 0 ∨ ltB (xC W l t n) (dnC W l t (n + 1)) = true then xC W l t n else dnC W l t (n + 1) := by
  have hx : xB W l[n] (l.drop (n + 1)) t[n] (szB l n) (n : Int) = xC W l t n := by
    unfold xB xC
    have hg : t.getD n zB = t[n] := by rw [List.getD_eq_getElem?_getD, List.getElem?_eq_getElem ht]; rfl
    rw [hg, szB_succ l n h]
    by_cases hl : l.length ≤ n + 1
    · rw [if_pos hl, if_pos (List.drop_eq_nil_of_le hl)]
    · rw [if_neg hl, if_neg (by intro e; have := congrArg List.length e; rw [List.length_drop] at this; simp at this; omega)]
  unfold dnC
  rw [List.drop_eq_getElem_cons h, List.drop_eq_getElem_cons ht, dnB, hx, szB_succ l n h]
  rfl
theorem dnC_all (W : Int) (w : ByteArray) (r : List ByteArray) (t : List Bst) : dnC W (w :: r) t 0 = dnB W (w :: r) t (-1) 0 := rfl
theorem dnC_ok (W M : Int) (hW : W ≤ 80) (hM : 0 ≤ M) (l : List ByteArray) (t : List Bst) (n : Nat) (ht : ∀ b ∈ t, okB M b) : okB (M + 1) (dnC W l t n) :=
  dnB_ok W M hW hM _ _ _ _ (fun b hb => ht b (List.mem_of_mem_drop hb)) (szB_ge l n)
theorem xC_ok (W M : Int) (hW : W ≤ 80) (l : List ByteArray) (t : List Bst) (n : Nat) (hb : okB M (t.getD n zB)) (hs : szB l (n + 1) ≤ W) (h0 : 0 ≤ szB l (n + 1)) : okB (M + 1) (xC W l t n) := by
  obtain ⟨h1, h2, h3, h4⟩ := hb
  have hq := sqB_bd (x := W - szB l (n + 1)) (by omega) (by omega)
  unfold okB xC
  simp only
  split <;> refine ⟨by omega, by omega, by omega, by omega⟩
section
variable {P : Program} {ops : Array Oper} {Q : Exit → Act → World → Prop} {md : Region.Mode} {S : World → Prop} {fuel : Nat} {listed : Array Bool} {a a' : Act} {w : World} {oi : Oper}
theorem tB (i : Nat) (cs : Array Value) (t : TypeId)
    (h : ∀ g, g = w.heap.size → ∀ w1, w1.heap[g]? = some (.cells cs t (0, 0)) → Below w.heap.size w w1 → S w1 ∧ ∀ a', a.put oi.dst (.pointer (some ⟨g, 0, none⟩)) = a' → (S w1 → wpAnyH P md ops Q S fuel (listed.setIfInBounds i true) a' w1))
    (hi : ops[i]? = some oi := by rfl) (hr : Region.ready md ops listed = [i] := by kernel_rfl)
    (hw : Region.wanted oi (yielded ops a.tmps) = true := by rfl)
    (hrun : (execOp a.eval oi).run P w = .ok (.value (.pointer (some ⟨w.heap.size, 0, none⟩))) (w.alloc (.cells cs t (0, 0))) := by (first | (go_simp; done) | (go_simp; rfl))) : wpAnyH P md ops Q S (fuel + 1) listed a w := by
  refine wpAnyH_ready hr (by simp) (AllReadyH.cons hi (fun K hK => ?_) AllReadyH.nil)
  rw [if_pos hw]
  unfold Oper.wp
  rw [hrun, Oper.upon_value]
  obtain ⟨hS, hn⟩ := h _ rfl _ (blk_new w _) (below_alloc (Below.refl _ _) _)
  exact hK.out _ _ hS (hn _ rfl)
theorem tS (i : Nat) {w1 : World}
    (hS : S w1)
    (h : S w1 → wpAnyH P md ops Q S fuel (listed.setIfInBounds i true) a w1)
    (hi : ops[i]? = some oi := by rfl) (hr : Region.ready md ops listed = [i] := by kernel_rfl)
    (hw : Region.wanted oi (yielded ops a.tmps) = true := by rfl) (hd : oi.dst = none := by rfl)
    (hrun : (execOp a.eval oi).run P w = .ok .skip w1 := by (first | (go_simp; done) | (go_simp; rfl))) : wpAnyH P md ops Q S (fuel + 1) listed a w := by
  refine wpAnyH_ready hr (by simp) (AllReadyH.cons hi (fun K hK => ?_) AllReadyH.nil)
  rw [if_pos hw]
  unfold Oper.wp
  rw [hrun, Oper.upon_skip, hd]
  exact hK.out _ _ hS h
end
theorem ltB_iff (x y : Bst) : ltB x y = true ↔ (x.c < y.c ∨ (x.c = y.c ∧ x.l < y.l)) := by simp [ltB]
theorem said_C (A : Option Addr) (c : Nat) (ws : List ByteArray) (W : Int) (w : World) (hr : Kd.C Kd.string w A ws.length ws) (hc : ws.length ≤ c) (hl : ws.length ≤ maxLen) (hs : ∀ s ∈ ws, s.size ≤ maxLen) :
    Calls Try.prog 24 #[.slice A ws.length c, .int .i64 W] w fun e w' => e = .returned (.bool (saidB ws W)) ∧ Below w.heap.size w w' := by
  obtain ⟨k, hk⟩ := (said_ev ws W hl hs).rounds
  exact (spec_l13Said.calls k A c ws W _ w hr hc hk).mono fun e w' h => ⟨h.1, h.2.below⟩
theorem join_C (A : Option Addr) (c : Nat) (l : List ByteArray) (w : World) (hr : Kd.C Kd.string w A l.length l) (hc : l.length ≤ c) (hl : l.length ≤ 60) (hs : ∀ s ∈ l, s.size ≤ 80) :
    Calls Try.prog 25 #[.slice A l.length c] w fun e w' => e = .returned (.string (joinB l)) ∧ Below w.heap.size w w' := by
  obtain ⟨k, hk⟩ := (join_ev l (by omega) (fun s h => by have := hs s h; omega)).rounds
  exact (spec_l13Join.calls k A c l _ w hr hc hk).mono fun e w' h => ⟨h.1, h.2.below⟩
theorem join_mid {A : Option Addr} {c : Nat} {ws : List ByteArray} {w : World} (HR : Kd.C Kd.string w A ws.length ws) (HC : ws.length ≤ c) (hn : ws.length ≤ 60) (HSZ : ∀ s ∈ ws, s.size ≤ 80) (i q : Nat) (hq : 1 ≤ q) (hiq : i + q ≤ ws.length) :
    ∀ W' : World, Below w.heap.size w W' → Calls Try.prog 25 #[.slice (Option.map (fun x => x.add i) A) q (c - i)] W' fun e w' => e = .returned (.string (joinB ((ws.take (i + q)).drop i))) ∧ Below W'.heap.size W' w' := by
  intro W' hb
  obtain ⟨l', hl'⟩ : ∃ l', l' = (ws.take (i + q)).drop i := ⟨_, rfl⟩
  have hll : l'.length = q := by rw [hl', List.length_drop, List.length_take]; omega
  have CD : Kd.C Kd.string w (A.map (·.add (i * 1))) l'.length l' := by rw [hl']; have := Kd.C_mid (lo := i) (hi := i + q) (c := c) HR (by omega) hiq HC; rwa [if_neg (by omega)] at this
  have hls : ∀ s ∈ l', s.size ≤ 80 := fun s h => HSZ s (by rw [hl'] at h; exact List.mem_of_mem_take (List.mem_of_mem_drop h))
  rw [← hl']
  have := join_C (A.map (·.add (i * 1))) (c - i) l' W' (Kd.C_below CD hb) (by omega) (by omega) hls
  rw [hll] at this
  simpa only [Nat.mul_one] using this

set_option maxHeartbeats 8000000 in
set_option maxRecDepth 100000 in
theorem specBest_walk (A : Option Addr) (c : Nat) (ws : List ByteArray) (W : Int) (w : World) (hr : Kd.C Kd.string w A ws.length ws) (hc : ws.length ≤ c) (hl : ws.length ≤ maxLen) (hs : ∀ s ∈ ws, s.size ≤ maxLen) :
    Calls Try.prog 7 #[.slice A ws.length c, .int .i64 W] w fun e w' => ∃ v0_ : Value, e = .returned (.tuple #[v0_, .int .i64 (bestB ws W).2.1, .bool (bestB ws W).2.2]) ∧ Kd.R Kd.string 9 w' w.heap.size (fun _ => True) v0_ (bestB ws W).1 ∧ Below w.heap.size w w' := by
  have HR := mz hr
  have HC := mz hc
  have hfit := said_C A c ws W w hr hc hl hs
  clear hr hc hs hl
  cases hsd : saidB ws W with
  | false =>
    have hres : bestB ws W = ([], 0, false) := by simp [bestB, hsd]
    rw [hres]
    rw [hsd] at hfit
    have HF := mz hfit
    clear hfit hsd hres
    go_enter Try.func7, Try.ntmps7
    go_wp2_with fail
    refine HF.out.mono ?_
    rintro e w1 ⟨rfl, hb⟩
    have HB1 := mz hb
    clear hb
    go_wp2_with fail
    go_ret3
    exact ⟨.slice none 0 0, rfl, Kd.R_nil _ _ _ _ _, HB1.out⟩
  | true =>
    obtain ⟨hn60, hsz, hW1, hW80, _⟩ := saidB_of hsd
    have hres : bestB ws W = (linesB ws (tabB W ws) (ws.length + 1) 0, ((tabB W ws).getD 0 zB).c, true) := by simp [bestB, hsd]
    rw [hres]
    rw [hsd] at hfit
    have HF := mz hfit
    have HSZ := mz hsz
    clear hfit hsd hres hsz
    have hjm := fun i q h1 h2 => join_mid HR.out HC.out hn60 (fun s h => (HSZ.out s h).2.1) i q h1 h2
    have HJM := mz hjm
    clear hjm
    have hw1 : (ws.length : Int) + 1 ≤ 61 := by omega
    have hz1 : 0 ≤ (ws.length : Int) + 1 := by omega
    have hzn : ((ws.length : Int) + 1).toNat = ws.length + 1 := by omega
    go_enter Try.func7, Try.ntmps7
    go_wp2_with fail
    refine HF.out.mono ?_
    rintro e w1 ⟨rfl, hb⟩
    have HB1 := mz hb
    clear hb
    go_wp2_with ((with_reducible refine gate_dst (N := 22) rfl ?_); refine Kd.R_make (w0 := w) k49 w.heap.size 49 rfl (N := 22) rfl 46 _ _ rfl ((ws.length : Int) + 1) rfl rfl Try.underlying46 (.agg #[(.int .i64 0), (.int .i64 0), (.int .i64 0)]) 24 info49 rfl (by decide) (by omega) z49 (ok := fun _ => True) (okp := fun _ => True) (k49_mkM _ _ _ z49) (fun _ hk => hk) trivial hz1 (by rw [hzn]; omega) HB1.out HB1.out.size ?_; intro v25 w2 hR25 hB25 hg25 hn25; have HR2 := mz hR25; have HB2 := mz hB25; clear hR25 hB25 hg25 hn25)
    obtain ⟨g, cap, hg, hrow⟩ := RowS.made HR2.out (by rw [hzn]; omega)
    subst hg
    rw [hzn] at hrow ⊢
    have HRW := mz hrow
    clear hrow hz1 hw1 hzn HR2 HF HB1
    go_loopg [8] (ws.length + 1) (fun gg z8 wr => ∃ (ii : Nat) (z : Int), ii ≤ ws.length ∧ ii + 1 ≤ gg ∧ z8 = .int .i64 z ∧ z = (ii : Int) - 1 ∧ Aside0 (RowS wr w.heap.size g cap (List.replicate ii zB ++ tabB W (ws.drop ii))) ∧ Aside0 (Below w.heap.size w wr))
    case atStart => exact ⟨ws.length, _, Nat.le_refl _, by omega, rfl, rfl, ⟨by rw [List.drop_eq_nil_of_le (Nat.le_refl _), show tabB W [] = List.replicate 1 zB from rfl, List.replicate_append_replicate]; exact HRW.out⟩, HB2⟩
    case round =>
      clear HB2 HRW
      obtain ⟨ii, z, hii, hgk, rfl, hz, RW, BW⟩ := hrel
      cases ii with
      | succ m =>
        have hzm : z = (m : Int) := by omega
        subst hzm
        clear hz
        have hm : m < ws.length := hii
        have hmz : (0 : Int) ≤ (m : Int) := by omega
        obtain ⟨wm, hwm⟩ : ∃ x, x = ws[m] := ⟨_, rfl⟩
        obtain ⟨r, hr⟩ : ∃ x, x = ws.drop (m + 1) := ⟨_, rfl⟩
        have hrl : r.length + (m + 1) = ws.length := by rw [hr, List.length_drop]; omega
        have hdm : ws.drop m = wm :: r := by rw [hwm, hr]; exact List.drop_eq_getElem_cons hm
        have hTl := tabB_length W r
        have hD0 : dnC W (wm :: r) (tabB W r) (r.length + 1) = zB := dnC_end W (wm :: r) (tabB W r)
        have hT : List.replicate (m + 1) zB ++ tabB W (ws.drop (m + 1)) = List.replicate m zB ++ dnC W (wm :: r) (tabB W r) (r.length + 1) :: tabB W r := by rw [hD0, ← hr, List.replicate_succ', List.append_assoc]; rfl
        have RW2 := RW.out
        rw [hT] at RW2
        clear RW hT hD0
        have RW := mz RW2
        have HDM := mz hdm
        have HRL := mz hrl
        have HTL := mz hTl
        clear RW2 hdm hr hwm hTl
        have hl0 : (ws.length : Int) - (m : Int) = ((r.length + 1 : Nat) : Int) := by omega
        have HL0 := mz hl0
        clear hl0
        go_wp2_with fail
        go_loopg [9] (r.length + 1) (fun gg z9 wr => ∃ (n : Nat), n ≤ r.length + 1 ∧ n ≤ gg ∧ z9 = .int .i64 (n : Int) ∧ Aside0 (RowS wr w.heap.size g cap (List.replicate m zB ++ dnC W (wm :: r) (tabB W r) n :: tabB W r)) ∧ Aside0 (Below w.heap.size w wr))
        case atStart => exact ⟨r.length + 1, Nat.le_refl _, Nat.le_refl _, (by rw [HL0.out]), RW, BW⟩
        case round =>
          clear RW BW
          obtain ⟨n, hn, hgn, rfl, RW, BW⟩ := hrel
          cases n with
          | zero =>
            have RW3 := RW.out
            rw [dnC_all, show dnB W (wm :: r) (tabB W r) (-1) 0 :: tabB W r = tabB W (ws.drop m) from by rw [HDM.out]; rfl] at RW3
            have RW4 := mz RW3
            clear RW3 RW
            go_wp2_with fail
            go_roundg (m + 1)
            case measure => omega
            case rel => exact ⟨m, (m : Int) - 1, by omega, by omega, (by first | go_num | rfl), rfl, RW4, BW⟩
          | succ nn =>
            obtain ⟨q, hq⟩ : ∃ q, q = nn + 1 := ⟨_, rfl⟩
            have hq1 : 1 ≤ q := by omega
            have hmq : m + q ≤ ws.length := by have := HRL.out; omega
            have hmqc : m + q ≤ c := Nat.le_trans hmq HC.out
            have hj := HJM.out m q hq1 hmq
            have hjl : (ws.take (m + q)).drop m = (wm :: r).take q := by rw [← HDM.out, List.take_drop]
            rw [hjl] at hj
            have hjs := szB_join (wm :: r) nn (by simp only [List.length_cons]; omega)
            rw [← hq] at hjs ⊢
            have hjb := joinB_size ((wm :: r).take q) (by rw [List.length_take]; have := HRL.out; simp only [List.length_cons]; omega) (fun s h => (HSZ.out s (by have h2 := List.mem_of_mem_take h; rw [← HDM.out] at h2; exact List.mem_of_mem_drop h2)).2.1)
            have hst := dnC_step W (wm :: r) (tabB W r) nn (by simp only [List.length_cons]; omega) (by rw [HTL.out]; omega)
            rw [← hq, ← hjs] at hst
            generalize joinB ((wm :: r).take q) = jb at hj hjs hjb hst
            obtain ⟨s2, hs2⟩ : ∃ s2, s2 = (jb.size : Int) := ⟨_, rfl⟩
            have hs20 : 0 ≤ s2 := by omega
            have hs2b : s2 ≤ 4940 := by omega
            rw [← hs2] at hst hjs
            have HJ := mz hj
            have HJS := mz hjs
            have HST := mz hst
            have HS2 := mz hs2.symm
            have HQ := mz hq
            have HN := mz hn
            have RW2 := RW.out
            rw [← hq] at RW2
            have RWq := mz RW2
            clear hj hjs hst hs2 hjl hjb RW2 RW hn
            have hqz : 0 < (q : Int) := by omega
            have hmz2 : (0 : Int) ≤ (m : Int) := by omega
            have hmqz : (m : Int) + (q : Int) ≤ (c : Int) := by omega
            have hmqn : ((m : Int) + (q : Int)).toNat = m + q := by omega
            have HQQ := mz hq
            clear hq
            go_wp2_with fail
            refine (HJ.out _ BW.out).mono ?_
            rintro e w3 ⟨rfl, hb⟩
            have BW3 := mz (below_step BW.out hb)
            have RW3 := mz (RWq.out.below hb)
            clear hb RWq BW HJ
            by_cases hov : W < s2
            · have hfin : dnC W (wm :: r) (tabB W r) q = dnC W (wm :: r) (tabB W r) nn := by rw [HST.out, if_pos hov]
              rw [hfin] at RW3
              have RW4 := mz RW3.out
              clear hfin RW3
              have hsz : (jb.size : Int) = s2 := HS2.out
              have hov2 : W < (jb.size : Int) := by omega
              go_wp2_with fail
              go_roundg nn
              case measure => omega
              case rel => exact ⟨nn, by have := HN.out; omega, by have := HN.out; omega, (by congr 1; have := HQQ.out; first | omega | (unfold wrap64; omega)), ⟨RW4.out⟩, ⟨BW3.out⟩⟩
            · have hov2 : (jb.size : Int) ≤ W := by have := HS2.out; omega
              have hov3 : ¬ W < (jb.size : Int) := by omega
              have hov4 : s2 ≤ W := by omega
              have hlen : (List.replicate m zB ++ dnC W (wm :: r) (tabB W r) q :: tabB W r).length = ws.length + 1 := by simp only [List.length_append, List.length_replicate, List.length_cons, HTL.out]; have := HRL.out; omega
              have hgk1 : (List.replicate m zB ++ dnC W (wm :: r) (tabB W r) q :: tabB W r).getD (m + q) zB = (tabB W r).getD nn zB := by
                rw [List.getD_eq_getElem?_getD, List.getD_eq_getElem?_getD, List.getElem?_append_right (by rw [List.length_replicate]; omega), List.length_replicate, show m + q - m = nn + 1 by have := HQ.out; omega, List.getElem?_cons_succ]
              have hgm : (List.replicate m zB ++ dnC W (wm :: r) (tabB W r) q :: tabB W r).getD m zB = dnC W (wm :: r) (tabB W r) q := by
                rw [List.getD_eq_getElem?_getD, List.getElem?_append_right (by rw [List.length_replicate]; omega), List.length_replicate, Nat.sub_self]; rfl
              have hset : ∀ x : Bst, (List.replicate m zB ++ dnC W (wm :: r) (tabB W r) q :: tabB W r).set m x = List.replicate m zB ++ x :: tabB W r := by intro x; rw [List.set_append_right _ _ (by rw [List.length_replicate]; omega), List.length_replicate, Nat.sub_self]; rfl
              have hup := HST.out
              rw [if_neg hov] at hup
              have hall := tabB_ok W hW80 r
              have hbok := hall ((tabB W r).getD nn zB) (by rw [List.getD_eq_getElem?_getD, List.getElem?_eq_getElem (by rw [HTL.out]; have := HN.out; omega)]; exact List.getElem_mem _)
              have hcok := dnC_ok W (r.length : Int) hW80 (by omega) (wm :: r) (tabB W r) q hall
              have hxok := xC_ok W (r.length : Int) hW80 (wm :: r) (tabB W r) nn hbok (by rw [← HQ.out, ← HJS.out]; exact hov4) (by rw [← HQ.out, ← HJS.out]; exact hs20)
              have RWx := RW3.out
              generalize hxd : xC W (wm :: r) (tabB W r) nn = x at hup hxok
              have hxc : x.c = if (wm :: r).length ≤ nn + 1 then ((tabB W r).getD nn zB).c else ((tabB W r).getD nn zB).c + sqB (W - szB (wm :: r) (nn + 1)) := by rw [← hxd]; rfl
              rw [← HQ.out, ← HJS.out] at hxc
              have hxl : x.l = ((tabB W r).getD nn zB).l + 1 := by rw [← hxd]; rfl
              have hxn : x.n = (q : Int) := by rw [HQ.out, ← hxd]; rfl
              generalize dnC W (wm :: r) (tabB W r) q = cur at RWx hlen hgk1 hgm hset hup hcok
              clear RW3
              have RW3 := mz RWx
              clear RWx
              generalize (tabB W r).getD nn zB = b at hgk1 hbok hxc hxl
              have hF : ∀ W' : World, Below w3.heap.size w3 W' → W'.cell? ⟨g, (m + q) * 3, none⟩ = some (.int .i64 b.c) ∧ W'.cell? ⟨g, (m + q) * 3 + 1, none⟩ = some (.int .i64 b.l) := by
                intro W' hb'
                obtain ⟨p0, p1, _, _, _, _⟩ := (RW3.out.below hb').get (m + q) (by rw [hlen]; omega)
                rw [hgk1] at p0 p1
                exact ⟨p0, p1⟩
              have hq9 := sqB_bd (x := W - s2) (by omega) (by omega)
              obtain ⟨bo1, bo2, bo3, bo4⟩ := hbok
              obtain ⟨xo1, xo2, xo3, xo4⟩ := hxok
              obtain ⟨co1, co2, co3, co4⟩ := hcok
              have hrr : r.length ≤ 60 := by have := HRL.out; omega
              have hwl : (wm :: r).length = ws.length - m := by have := HRL.out; simp only [List.length_cons]; omega
              rw [hwl] at hxc
              have HUP := mz hup
              have HSET := mz hset
              have HXC := mz hxc
              have HXL := mz hxl
              have HXN := mz hxn
              have HLEN := mz hlen
              have HGM := mz hgm
              have HFF := mz hF
              clear hup hset hxc hxl hxn hlen hgk1 hgm hxd hF hwl hall HST
              have hmq1 : (0 : Int) ≤ (m : Int) + (q : Int) := by omega
              have hmq2 : (m : Int) + (q : Int) < (ws.length : Int) + 1 := by omega
              have hsz2 : (jb.size : Int) = s2 := HS2.out
              have hwr1 : IntKind.i64.wrap ((m : Int) + (q : Int)) = (m : Int) + (q : Int) := by rw [i64_w]; unfold wrap64; omega
              have hwr2 : IntKind.i64.wrap (b.l + 1) = b.l + 1 := by rw [i64_w]; unfold wrap64; omega
              go_wp2_with fail
              refine wp_region_held_drew (S := fun W' => Below w3.heap.size w3 W') (by kernel_rfl) (below_drew1 (Below.refl _ _)) (fun Y => ?_)
              have F := HFF.out
              refine tF 0 F ?_
              refine tF 1 F ?_
              refine tF 2 F ?_
              refine tF 3 F ?_
              refine tF 4 F ?_
              refine tF 5 F ?_
              refine tF 6 F ?_
              refine tF 7 F ?_
              refine tF 8 F ?_
              refine tF 9 F ?_
              refine tF 10 F ?_
              refine tF 11 F ?_
              refine tF 12 F ?_
              refine tF 13 F ?_
              refine tF 14 F ?_
              refine tF 15 F ?_
              refine tF 16 F ?_
              clear F
              refine tB 17 #[.int .i64 0, .int .i64 0, .int .i64 0] 49 ?_
              intro g11 hg w_ hbox hb
              have GX : Aside0 (w3.heap.size ≤ g11) := ⟨by rw [hg]; exact Y.size⟩
              have BZ := mz hbox
              have YB := below_step Y hb
              obtain ⟨z0, z1, z2⟩ := cells3 hbox
              obtain ⟨f0, f1, f2⟩ := froz3 hbox
              clear hb hbox hg
              refine ⟨YB, fun a' ha' Y2 => ?_⟩
              subst ha'
              obtain ⟨hbk, hbb⟩ := fill3 (v0 := .int .i64 b.c) (v1 := .int .i64 (b.l + 1)) (v2 := .int .i64 (q : Int)) YB GX.out BZ.out
              refine tS 18 (w1 := (((w_.setCell ⟨g11, 0, none⟩ (.int .i64 b.c)).setCell ⟨g11, 1, none⟩ (.int .i64 (b.l + 1))).setCell ⟨g11, 2, none⟩ (.int .i64 (q : Int)))) hbb (fun Y3 => ?_)
              clear Y2 YB z0 z1 z2 f0 f1 f2 BZ Y
              generalize (((w_.setCell ⟨g11, 0, none⟩ (.int .i64 b.c)).setCell ⟨g11, 1, none⟩ (.int .i64 (b.l + 1))).setCell ⟨g11, 2, none⟩ (.int .i64 (q : Int))) = w11 at hbk hbb Y3 ⊢
              refine wpAnyH_done (by kernel_rfl) ?_ _
              have B11 := mz hbb
              have K11 := mz hbk
              clear hbb hbk Y3
              obtain ⟨y0, y1, y2⟩ := cells3 K11.out
              obtain ⟨f0, f1, f2⟩ := froz3 K11.out
              have hsq0 : 0 ≤ (W - s2) * (W - s2) := hq9.1
              have hsq1 : (W - s2) * (W - s2) ≤ 6400 := hq9.2
              go_upto_if 71 with (fail)
              go_cut [9] (fun z wc => z = .int .i64 (q : Int) ∧ Aside0 (wc.heap[g11]? = some (.cells #[.int .i64 x.c, .int .i64 x.l, .int .i64 x.n] 49 (0, 0))) ∧ Aside0 (Below w3.heap.size w3 wc))
              case first =>
                by_cases hla : (m : Int) + (q : Int) < (ws.length : Int)
                · have hxc2 : Aside0 (b.c + (W - s2) * (W - s2) = x.c) := ⟨by rw [HXC.out, if_neg (by omega)]; rfl⟩
                  go_wp2_with fail
                  go_meet
                  case rel => exact ⟨rfl, ⟨by rw [← hxc2.out, HXL.out, HXN.out]; exact blk_put (cs := #[.int .i64 b.c, .int .i64 (b.l + 1), .int .i64 (q : Int)]) K11.out 0 _ rfl⟩, ⟨below_set B11.out GX.out⟩⟩
                · have hxc2 : Aside0 (b.c = x.c) := ⟨by rw [HXC.out, if_pos (by omega)]⟩
                  go_wp2_with fail
                  go_meet
                  case rel => exact ⟨rfl, ⟨by rw [← hxc2.out, HXL.out, HXN.out]; exact K11.out⟩, B11⟩
              case rest =>
                clear y0 y1 y2 f0 f1 f2 K11 B11 hsq0 hsq1
                obtain ⟨rfl, K11, B11⟩ := hcut
                have RWc := mz (RW3.out.below B11.out)
                have BWc := mz (below_step BW3.out B11.out)
                obtain ⟨q0, q1, q2, qf0, qf1, qf2⟩ := RWc.out.get m (by rw [HLEN.out]; omega)
                rw [HGM.out] at q0 q1 q2
                have hmw : (m : Int) < (ws.length : Int) + 1 := by omega
                go_upto_region 16 with ((with_reducible refine gate_dst (N := 12) rfl ?_); refine bx 12 #[.int .i64 0, .int .i64 0, .int .i64 0] 49 ?_; intro g12 hg w_ hbox hb; have HBZ := mz hb; have BZ := mz hbox; have GX : Aside0 (wc.heap.size ≤ g12) := ⟨by rw [hg]; first | exact Nat.le_refl _ | simp⟩; obtain ⟨z0, z1, z2⟩ := cells3 hbox; obtain ⟨f0, f1, f2⟩ := froz3 hbox; clear hb hbox hg)
                obtain ⟨hbk, hbb⟩ := fill3 (v0 := .int .i64 cur.c) (v1 := .int .i64 cur.l) (v2 := .int .i64 cur.n) HBZ.out GX.out BZ.out
                clear z0 z1 z2 f0 f1 f2 BZ HBZ
                generalize ((w_.setCell ⟨g12, 0, none⟩ (.int .i64 cur.c)).setCell ⟨g12, 1, none⟩ (.int .i64 cur.l)).setCell ⟨g12, 2, none⟩ (.int .i64 cur.n) = w12 at hbk hbb ⊢
                have B12 := mz hbb
                have K12 := mz hbk
                have K11b := mz (blk_below K11.out hbb)
                have RW12 := mz (RWc.out.below hbb)
                have BW12 := mz (below_step BWc.out hbb)
                clear hbk hbb GX q0 q1 q2 qf0 qf1 qf2
                obtain ⟨y0, y1, y2⟩ := cells3 K11b.out
                obtain ⟨u0, u1, u2⟩ := cells3 K12.out
                obtain ⟨q0, q1, q2, qf0, qf1, qf2⟩ := RW12.out.get m (by rw [HLEN.out]; omega)
                clear K12 K11 K11b B12 B11 RWc BWc RW3 BW3
                cases hc0 : (cur.n == 0) with
                | true =>
                  have UPN : Aside0 (x = dnC W (wm :: r) (tabB W r) nn) := ⟨by have e := HUP.out; rw [if_pos (by left; exact (by simpa using hc0))] at e; exact e.symm⟩
                  go_wp2_with fail
                  have hput := (RW12.out.put m (by rw [HLEN.out]; omega) x).1
                  rw [HSET.out] at hput
                  have hbb := below_set (j := m * 3 + 2) (v := .int .i64 x.n) (below_set (j := m * 3 + 1) (v := .int .i64 x.l) (below_set (j := m * 3) (v := .int .i64 x.c) BW12.out RW12.out.lo) RW12.out.lo) RW12.out.lo
                  have HPUT := mz hput
                  have HBB := mz hbb
                  clear hput hbb
                  go_roundg nn
                  case measure => omega
                  case rel => exact ⟨nn, by have := HN.out; omega, by have := HN.out; omega, (by congr 1; have := HQQ.out; first | omega | (unfold wrap64; omega)), ⟨by rw [← UPN.out]; exact HPUT.out⟩, ⟨HBB.out⟩⟩
                | false =>
                  have hc1 : ¬ cur.n = 0 := by simpa using hc0
                  have HC1 := mz hc1
                  clear hc1
                  by_cases c1 : x.c < cur.c
                  · skip
                    have UPN : Aside0 (x = dnC W (wm :: r) (tabB W r) nn) := ⟨by have e := HUP.out; rw [if_pos (by right; rw [ltB_iff]; exact .inl c1)] at e; exact e.symm⟩
                    go_wp2_with fail
                    have hput := (RW12.out.put m (by rw [HLEN.out]; omega) x).1
                    rw [HSET.out] at hput
                    have hbb := below_set (j := m * 3 + 2) (v := .int .i64 x.n) (below_set (j := m * 3 + 1) (v := .int .i64 x.l) (below_set (j := m * 3) (v := .int .i64 x.c) BW12.out RW12.out.lo) RW12.out.lo) RW12.out.lo
                    have HPUT := mz hput
                    have HBB := mz hbb
                    clear hput hbb
                    go_roundg nn
                    case measure => omega
                    case rel => exact ⟨nn, by have := HN.out; omega, by have := HN.out; omega, (by congr 1; have := HQQ.out; first | omega | (unfold wrap64; omega)), ⟨by rw [← UPN.out]; exact HPUT.out⟩, ⟨HBB.out⟩⟩
                  cases c2 : (x.c == cur.c) with
                  | false =>
                    have UPN : Aside0 (cur = dnC W (wm :: r) (tabB W r) nn) := ⟨by have e := HUP.out; rw [if_neg (by rintro (h | h); exact HC1.out h; rw [ltB_iff] at h; have h1 : ¬ x.c = cur.c := (by simpa using c2); omega)] at e; exact e.symm⟩
                    go_wp2_with fail
                    go_roundg nn
                    case measure => omega
                    case rel => exact ⟨nn, by have := HN.out; omega, by have := HN.out; omega, (by congr 1; have := HQQ.out; first | omega | (unfold wrap64; omega)), ⟨by rw [← UPN.out]; exact RW12.out⟩, ⟨BW12.out⟩⟩
                  | true =>
                    have c2e : x.c = cur.c := by simpa using c2
                    have C2E := mz c2e
                    clear c2e
                    by_cases c3 : x.l < cur.l
                    · skip
                      have UPN : Aside0 (x = dnC W (wm :: r) (tabB W r) nn) := ⟨by have e := HUP.out; rw [if_pos (by right; rw [ltB_iff]; exact .inr ⟨C2E.out, c3⟩)] at e; exact e.symm⟩
                      go_wp2_with fail
                      have hput := (RW12.out.put m (by rw [HLEN.out]; omega) x).1
                      rw [HSET.out] at hput
                      have hbb := below_set (j := m * 3 + 2) (v := .int .i64 x.n) (below_set (j := m * 3 + 1) (v := .int .i64 x.l) (below_set (j := m * 3) (v := .int .i64 x.c) BW12.out RW12.out.lo) RW12.out.lo) RW12.out.lo
                      have HPUT := mz hput
                      have HBB := mz hbb
                      clear hput hbb
                      go_roundg nn
                      case measure => omega
                      case rel => exact ⟨nn, by have := HN.out; omega, by have := HN.out; omega, (by congr 1; have := HQQ.out; first | omega | (unfold wrap64; omega)), ⟨by rw [← UPN.out]; exact HPUT.out⟩, ⟨HBB.out⟩⟩
                    · skip
                      have UPN : Aside0 (cur = dnC W (wm :: r) (tabB W r) nn) := ⟨by have e := HUP.out; rw [if_neg (by rintro (h | h); exact HC1.out h; rw [ltB_iff] at h; have := C2E.out; omega)] at e; exact e.symm⟩
                      go_wp2_with fail
                      go_roundg nn
                      case measure => omega
                      case rel => exact ⟨nn, by have := HN.out; omega, by have := HN.out; omega, (by congr 1; have := HQQ.out; first | omega | (unfold wrap64; omega)), ⟨by rw [← UPN.out]; exact RW12.out⟩, ⟨BW12.out⟩⟩
      | zero =>
        have hz0 : z = -1 := by omega
        subst hz0
        clear hz
        have RW0 := RW.out
        simp only [List.replicate_zero, List.nil_append, List.drop_zero] at RW0
        have hTl := tabB_length W ws
        obtain ⟨T, hT⟩ : ∃ T, T = tabB W ws := ⟨_, rfl⟩
        have hwd : ∀ i, i < ws.length → 1 ≤ (T.getD i zB).n ∧ (T.getD i zB).n ≤ (ws.length : Int) - i := by rw [hT]; exact fun i hi => tab_words W ws (fun s h => (HSZ.out s h).2.2) i hi
        rw [← hT] at RW0 hTl
        have RWT := mz RW0
        have HTT := mz hT
        have HWD := mz hwd
        have HTL := mz hTl
        clear RW0 RW hT hwd hTl
        go_wp2_with fail
        go_loopg [13, 14] (ws.length) (fun gg z13 z14 wr => ∃ (v : Value) (i kf : Nat) (o : List ByteArray), v = z13 ∧ z14 = .int .i64 (i : Int) ∧ i ≤ ws.length ∧ ws.length - i ≤ gg ∧ ws.length - i < kf ∧ o.length ≤ i ∧ Aside0 (Kd.R Kd.string 9 wr w.heap.size (fun _ => True) v o) ∧ Aside0 (RowS wr w.heap.size g cap T) ∧ Aside0 (Below w.heap.size w wr) ∧ Aside0 (linesB ws T (ws.length + 1) 0 = o ++ linesB ws T kf i))
        case atStart => exact ⟨_, 0, ws.length + 1, [], rfl, rfl, Nat.zero_le _, by omega, by omega, by simp, ⟨Kd.R_nil _ _ _ _ _⟩, RWT, BW, ⟨rfl⟩⟩
        case round =>
          clear RWT BW
          obtain ⟨v, i, kf, o, rfl, rfl, hi, hgi, hkf, hol, RO, RWT, BW, LN⟩ := hrel
          by_cases hlt : i < ws.length
          · have hltz : (i : Int) < (ws.length : Int) := by omega
            obtain ⟨p0, p1, p2, _, _, _⟩ := RWT.out.get i (by rw [HTL.out]; omega)
            have hw2 := HWD.out i hlt
            obtain ⟨kf1, rfl⟩ : ∃ q, kf = q + 1 := ⟨kf - 1, by omega⟩
            have hln := LN.out
            rw [show linesB ws T (kf1 + 1) i = joinB ((ws.take (i + (T.getD i zB).n.toNat)).drop i) :: linesB ws T kf1 (i + (T.getD i zB).n.toNat) from by rw [linesB, if_pos hlt]] at hln
            generalize hnn : (T.getD i zB).n = nn at p2 hw2 hln
            obtain ⟨q, hq⟩ : ∃ q : Nat, nn = (q : Int) := ⟨nn.toNat, by omega⟩
            subst hq
            rw [Int.toNat_natCast] at hln
            have HNN := mz hnn
            clear hnn LN
            have hq1 : 1 ≤ q := by omega
            have hiq : i + q ≤ ws.length := by omega
            have hiqc : i + q ≤ c := Nat.le_trans hiq HC.out
            have hj := HJM.out i q hq1 hiq
            generalize joinB ((ws.take (i + q)).drop i) = jb at hj hln
            have HLN := mz hln
            have HJ := mz hj
            clear hln hj
            have hiz : (0 : Int) ≤ (i : Int) := by omega
            have hiqz : (i : Int) + (q : Int) ≤ (c : Int) := by omega
            have hiq2 : ((i : Int) + (q : Int)).toNat = i + q := by omega
            go_wp2_with fail
            refine (HJ.out _ BW.out).mono ?_
            rintro e w3 ⟨rfl, hb⟩
            have BW3 := mz (below_step BW.out hb)
            have RO3 := mz (Kd.R_below RO.out hb)
            have RT3 := mz (RWT.out.below hb)
            clear hb p0 p1 p2
            go_wp2_with ((with_reducible refine gate_builtin (b := .append) (xs := #[.tmp 126, .tmp 138]) rfl ?_); at_builtin; refine Kd.R_append Kd.string (w0 := w) w.heap.size rfl (.tmp 126) (.tmp 138) 23 9 (.string ⟨#[]⟩) 16 rfl Try.underlying23 info9 rfl (by decide) (by omega) _ o jb [.string jb] (fun _ => True) (fun _ => False) rfl rfl ?aP (fun _ hk => hk.elim) ?aF ?aO ?aB ?aS ?aL ?_; (case aP => exact rfl); (case aB => exact BW3.out); (case aF => exact (fun _ _ => trivial)); (case aO => exact RO3.out); (case aS => exact BW3.out.size); (case aL => omega); intro v4 w4 ho hb hg hat; have RO4 := mz ho; have BW4 := mz hb; have RT4 : Aside0 (RowS w4 w.heap.size g cap T) := ⟨Kd.R_over' (show Kd.R k49 49 w3 w.heap.size (fun k => k = g) _ _ from RT3.out) (Kd.R_typed RO3.out) (by decide) hg⟩; obtain ⟨p0, p1, p2, _, _, _⟩ := RT4.out.get i (by rw [HTL.out]; omega); rw [HNN.out] at p2; clear ho hb hg hat)
            go_roundg (ws.length - (i + q))
            case measure => omega
            case rel => exact ⟨_, i + q, kf1, o ++ [jb], rfl, (by first | go_num | (congr 1; unfold wrap64; omega)), by omega, by omega, by omega, (by rw [List.length_append, List.length_singleton]; omega), RO4, RT4, BW4, ⟨by rw [HLN.out, List.append_assoc]; rfl⟩⟩
          · have hie : i = ws.length := by omega
            subst hie
            have hlz : linesB ws T kf ws.length = [] := by cases kf with | zero => rfl | succ q => rw [linesB, if_neg (by omega)]
            have HO : Aside0 (linesB ws T (ws.length + 1) 0 = o) := ⟨by rw [LN.out, hlz, List.append_nil]⟩
            clear LN hlz
            obtain ⟨p0, _, _, _, _, _⟩ := RWT.out.get 0 (by rw [HTL.out]; omega)
            rw [Nat.zero_mul] at p0
            generalize hcc : (T.getD 0 zB).c = cc at p0
            have HCC := mz hcc
            clear hcc RWT
            go_wp2_with fail
            refine wp_region_held_drew (S := fun W' => W'.cell? ⟨g, 0, none⟩ = some (.int .i64 cc) ∧ Aside0 (Kd.R Kd.string 9 W' w.heap.size (fun _ => True) v o) ∧ Aside0 (Below w.heap.size w W')) (by kernel_rfl) ⟨p0, ⟨Kd.R_drew RO.out⟩, ⟨below_drew1 BW.out⟩⟩ (fun Y => ?_)
            have F : ∀ W' : World, (W'.cell? ⟨g, 0, none⟩ = some (.int .i64 cc) ∧ Aside0 (Kd.R Kd.string 9 W' w.heap.size (fun _ => True) v o) ∧ Aside0 (Below w.heap.size w W')) → W'.cell? ⟨g, 0, none⟩ = some (.int .i64 cc) := fun _ h => h.1
            have HFF := mz F
            clear F p0 RO BW
            refine tF 0 HFF.out ?_
            refine tF 1 HFF.out ?_
            refine tF 2 HFF.out ?_
            refine tF 3 HFF.out ?_
            refine tF 4 HFF.out ?_
            refine tF 5 HFF.out ?_
            refine tF 6 HFF.out ?_
            refine tF 7 HFF.out ?_
            refine wpAnyH_done (by kernel_rfl) ?_ _
            clear HFF
            go_wp2_with fail
            go_ret3
            have e1 := HO.out
            rw [HTT.out] at e1
            rw [e1, ← HTT.out, HCC.out]
            exact ⟨v, rfl, Y.2.1.out, Y.2.2.out⟩

def spec_BestLines.f (l0 : List ByteArray) (a1 : Int) : Option (List ByteArray × Int × Bool) := if (l0.all (fun s => decide (s.size ≤ maxLen)) && decide (l0.length ≤ maxLen)) = true then some (bestB l0 a1) else none
theorem spec_BestLines.calls (A0 : Option Addr) (c0 : Nat) (l0 : List ByteArray) (a1 : Int) (r1 : List ByteArray) (r2 : Int) (r3 : Bool) (w : World) (hr0 : Kd.C Kd.string w A0 l0.length l0) (hc0 : l0.length ≤ c0) (h : spec_BestLines.f l0 a1 = some (r1, r2, r3)) :
    Calls Try.prog 7 #[.slice A0 l0.length c0, .int .i64 a1] w fun e w' => ∃ v0_ : Value, e = .returned (.tuple #[v0_, .int .i64 r2, .bool r3]) ∧ Kd.R Kd.string 9 w' w.heap.size (fun _ => True) v0_ r1 ∧ Below w.heap.size w w' := by
  unfold spec_BestLines.f at h
  by_cases hs : (l0.all (fun s => decide (s.size ≤ maxLen)) && decide (l0.length ≤ maxLen)) = true
  · rw [if_pos hs] at h
    simp only [Option.some.injEq] at h
    rw [Bool.and_eq_true] at hs
    have := specBest_walk A0 c0 l0 a1 w hr0 hc0 (of_decide_eq_true hs.2) (fun s h2 => of_decide_eq_true (List.all_eq_true.1 hs.1 s h2))
    rw [h] at this
    exact this
  · rw [if_neg hs] at h; exact absurd h (by simp)
theorem spec_BestLines.val (l0 : List ByteArray) (a1 : Int) (hl : l0.length ≤ maxLen) (hs : ∀ s ∈ l0, s.size ≤ maxLen) : spec_BestLines.f l0 a1 = some (bestB l0 a1) := by
  unfold spec_BestLines.f
  rw [if_pos (by rw [Bool.and_eq_true]; exact ⟨List.all_eq_true.2 fun s h => decide_eq_true (hs s h), decide_eq_true hl⟩)]
end Go.Proofs.Ytokklflckaikgaa.X
