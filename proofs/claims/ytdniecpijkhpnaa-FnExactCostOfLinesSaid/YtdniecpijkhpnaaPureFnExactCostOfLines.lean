/- The program's CostOfLines returns what the reference's CostOfLines returns, at every slice of strings and every width. -/
import Derived.Test.YtdniecpijkhpnaaQFnExactCostOfLines
import Derived.Test.YtdniecpijkhpnaaStrs
namespace Go.Proofs.Ytdniecpijkhpnaa.Pure
open Go.RowKit Go.Proofs.Ytdniecpijkhpnaa.X Go.Proofs.YtdniecpijkhpnaaW.PrintWords Go.Proofs.YtdniecpijkhpnaaW.PrintLast

/-- What both sum: the squares of what is left of each line but the last. -/
def costs (w : Int) : List ByteArray → Int
  | [] => 0
  | [_] => 0
  | s :: t :: l => (w - s.size) * (w - s.size) + costs w (t :: l)
theorem costs_last (w : Int) (s : ByteArray) : costs w [s] = 0 := rfl
theorem costs_cons (w : Int) (s : ByteArray) (l : List ByteArray) (h : l ≠ []) : costs w (s :: l) = (w - s.size) * (w - s.size) + costs w l := by
  cases l with
  | nil => exact absurd rfl h
  | cons t l => rfl
/-- Whether each line has 1 to width bytes. -/
def linesOk (w : Int) (l : List ByteArray) : Bool := l.all fun s => decide (1 ≤ (s.size : Int)) && decide ((s.size : Int) ≤ w)

theorem sq_bd (w z : Int) (h1 : 1 ≤ w) (h2 : w ≤ 80) (h3 : 1 ≤ z) (h4 : z ≤ w) : 0 ≤ (w - z) * (w - z) ∧ (w - z) * (w - z) ≤ 6400 := by
  have h : 0 ≤ w - z := by omega
  have h' : w - z ≤ 80 := by omega
  exact ⟨Int.mul_nonneg h h, by have := Int.mul_le_mul h' h' h (by omega); omega⟩

theorem spec_cost (l : List ByteArray) (w : Int) (h1 : 1 ≤ w) (h2 : w ≤ 80) (hl : l.length ≤ 60) (hz : ∀ s ∈ l, 1 ≤ (s.size : Int) ∧ (s.size : Int) ≤ w) (d : Nat) : ∀ (i : Nat) (n : Int), i + d = l.length → 0 ≤ n → n ≤ i * 6400 →
    Ev (fun k => spec_l13Cost.l0 k l w n l (l.length : Int) (i : Int)) (n + costs w (l.drop i)) := by
  induction d with
  | zero =>
    intro i n h hn hn'
    refine Ev.succ ?_
    simp only [spec_l13Cost.l0, if_neg (show ¬ ((i : Int) < (l.length : Int)) by omega)]
    refine ev_eq (Ev.now _) ?_
    rw [List.drop_eq_nil_of_le (by omega)]; simp [costs]
  | succ d ih =>
    intro i n h hn hn'
    have hz' := hz l[i] (List.getElem_mem (by omega))
    have hb := sq_bd w l[i].size h1 h2 hz'.1 hz'.2
    have e : l.drop i = l[i] :: l.drop (i + 1) := List.drop_eq_getElem_cons (by omega)
    refine Ev.succ ?_
    simp only [spec_l13Cost.l0, if_pos (show ((i : Int) < (l.length : Int)) by omega), if_pos (show (0 : Int) ≤ i by omega), rdOf_get _ l i (by omega)]
    rw [w64 (show -9223372036854775808 ≤ (l.length : Int) - 1 by omega) (by omega), w64 (show -9223372036854775808 ≤ (i : Int) + 1 by omega) (by omega), w64 (show -9223372036854775808 ≤ w - (l[i].size : Int) by omega) (by omega), w64 (show -9223372036854775808 ≤ (w - (l[i].size : Int)) * (w - (l[i].size : Int)) by omega) (by omega), w64 (show -9223372036854775808 ≤ n + (w - (l[i].size : Int)) * (w - (l[i].size : Int)) by omega) (by omega)]
    by_cases hlast : (i : Int) < (l.length : Int) - 1
    · simp only [if_pos hlast]
      refine ev_eq (ih (i + 1) _ (by omega) (by omega) (by omega)) ?_
      rw [e, costs_cons _ _ _ (fun hx => by have := congrArg List.length hx; simp at this; omega)]
      omega
    · simp only [if_neg hlast]
      refine ev_eq (ih (i + 1) _ (by omega) (by omega) (by omega)) ?_
      rw [e, List.drop_eq_nil_of_le (show l.length ≤ i + 1 by omega)]
      rfl

theorem spec_lines (l : List ByteArray) (w : Int) (h1 : 1 ≤ w) (h2 : w ≤ 80) (hl : l.length ≤ 60) (hs : ∀ s ∈ l, s.size ≤ maxLen) (d : Nat) : ∀ i : Nat, i + d = l.length → linesOk w (l.take i) = true →
    Ev (fun k => spec_CostOfLines.l0 k l w l (l.length : Int) (i : Int)) (if linesOk w l = true then (costs w l, true) else (0, false)) := by
  induction d with
  | zero =>
    intro i h ht
    rw [List.take_of_length_le (by omega)] at ht
    refine Ev.succ ?_
    simp only [spec_CostOfLines.l0, if_neg (show ¬ ((i : Int) < (l.length : Int)) by omega)]
    have hz : ∀ s ∈ l, 1 ≤ (s.size : Int) ∧ (s.size : Int) ≤ w := by simpa [linesOk] using ht
    have := spec_cost l w h1 h2 hl hz l.length 0 0 (by omega) (by omega) (by omega)
    rw [if_pos ht]
    refine Ev.bind (a := costs w l) (ev_eq (by simpa [spec_l13Cost.f] using this) (by simp)) (Ev.now _)
  | succ d ih =>
    intro i h ht
    have hz := hs l[i] (List.getElem_mem (by omega))
    simp only [maxLen] at hz
    refine Ev.succ ?_
    simp only [spec_CostOfLines.l0, if_pos (show ((i : Int) < (l.length : Int)) by omega), if_pos (show (0 : Int) ≤ i by omega), rdOf_get _ l i (by omega), w64 (show -9223372036854775808 ≤ (i : Int) + 1 by omega) (by omega), spec_l1In.f]
    by_cases ha : (l[i].size : Int) ≥ 1
    · by_cases hb : (l[i].size : Int) ≤ w
      · simp only [if_pos ha, decide_eq_true hb, Option.bind_some, if_true]
        refine ih (i + 1) (by omega) ?_
        rw [List.take_succ_eq_append_getElem (by omega)]
        simp only [linesOk, List.all_append] at ht ⊢
        rw [ht]
        simp
        omega
      · simp only [if_pos ha, decide_eq_false hb, Option.bind_some, Bool.false_eq_true, if_false]
        refine ev_eq (Ev.now _) ?_
        rw [if_neg]
        intro hx
        have : ∀ s ∈ l, 1 ≤ (s.size : Int) ∧ (s.size : Int) ≤ w := by simpa [linesOk] using hx
        exact hb (this _ (List.getElem_mem (by omega))).2
    · simp only [if_neg ha, Option.bind_some, Bool.false_eq_true, if_false]
      refine ev_eq (Ev.now _) ?_
      rw [if_neg]
      intro hx
      have : ∀ s ∈ l, 1 ≤ (s.size : Int) ∧ (s.size : Int) ≤ w := by simpa [linesOk] using hx
      exact ha (this _ (List.getElem_mem (by omega))).1

theorem impl_lines (l : List ByteArray) (w : Int) (h1 : 1 ≤ w) (h2 : w ≤ 80) (hl : l.length ≤ 60) (hs : ∀ s ∈ l, s.size ≤ maxLen) (d : Nat) : ∀ (i : Nat) (n : Int), i + d = l.length → 0 ≤ n → n ≤ i * 6400 →
    Ev (fun k => impl_CostOfLines.l0 k l w n l (l.length : Int) (i : Int)) (if linesOk w (l.drop i) = true then (n + costs w (l.drop i), true) else (0, false)) := by
  induction d with
  | zero =>
    intro i n h hn hn'
    refine Ev.succ ?_
    simp only [impl_CostOfLines.l0, if_neg (show ¬ ((i : Int) < (l.length : Int)) by omega)]
    refine ev_eq (Ev.now _) ?_
    rw [List.drop_eq_nil_of_le (by omega)]; simp [costs, linesOk]
  | succ d ih =>
    intro i n h hn hn'
    have hz := hs l[i] (List.getElem_mem (by omega))
    simp only [maxLen] at hz
    have e : l.drop i = l[i] :: l.drop (i + 1) := List.drop_eq_getElem_cons (by omega)
    have eok : linesOk w (l.drop i) = (decide (1 ≤ (l[i].size : Int)) && decide ((l[i].size : Int) ≤ w) && linesOk w (l.drop (i + 1))) := by rw [e]; rfl
    refine Ev.succ ?_
    simp only [impl_CostOfLines.l0, if_pos (show ((i : Int) < (l.length : Int)) by omega), if_pos (show (0 : Int) ≤ i by omega), rdOf_get _ l i (by omega)]
    have bad : ∀ b : Bool, b = true → linesOk w (l.drop i) = false → Ev (fun k => impl_CostOfLines.j2 k l w n (i : Int) l[i] l (l.length : Int) (i : Int) b) (if linesOk w (l.drop i) = true then (n + costs w (l.drop i), true) else (0, false)) := by
      intro b hb hf
      subst hb
      refine Ev.succ ?_
      simp only [impl_CostOfLines.j2, if_true, hf, Bool.false_eq_true, if_false]
      exact Ev.now _
    by_cases ha : l[i].toList = ([] : List UInt8)
    · simp only [if_pos ha]
      refine bad true rfl ?_
      have : l[i].size = 0 := by
        have h := congrArg List.length ha
        rw [ByteArray.toList_eq] at h
        simpa using h
      rw [eok, this]; rfl
    · simp only [if_neg ha]
      have hpos : 1 ≤ (l[i].size : Int) := by
        rcases Nat.eq_zero_or_pos l[i].size with h0 | h0
        · exfalso; apply ha
          rw [ByteArray.toList_eq]
          exact List.eq_nil_of_length_eq_zero (by simpa using h0)
        · omega
      by_cases hb : (l[i].size : Int) ≤ w
      · rw [decide_eq_false (show ¬ (l[i].size : Int) > w by omega)]
        have hb' := sq_bd w l[i].size h1 h2 hpos hb
        have eok' : linesOk w (l.drop i) = linesOk w (l.drop (i + 1)) := by rw [eok, decide_eq_true hpos, decide_eq_true hb]; rfl
        refine Ev.succ ?_
        simp only [impl_CostOfLines.j2, Bool.false_eq_true, if_false]
        rw [w64 (show -9223372036854775808 ≤ (i : Int) + 1 by omega) (by omega), w64 (show -9223372036854775808 ≤ w - (l[i].size : Int) by omega) (by omega), w64 (show -9223372036854775808 ≤ (w - (l[i].size : Int)) * (w - (l[i].size : Int)) by omega) (by omega), w64 (show -9223372036854775808 ≤ n + (w - (l[i].size : Int)) * (w - (l[i].size : Int)) by omega) (by omega), eok']
        by_cases hlast : (i : Int) + 1 < (l.length : Int)
        · simp only [if_pos hlast]
          refine ev_eq (ih (i + 1) _ (by omega) (by omega) (by omega)) ?_
          rw [e, costs_cons _ _ _ (fun hx => by have := congrArg List.length hx; simp at this; omega), Int.add_assoc]
        · simp only [if_neg hlast]
          refine ev_eq (ih (i + 1) _ (by omega) (by omega) (by omega)) ?_
          rw [e, List.drop_eq_nil_of_le (show l.length ≤ i + 1 by omega)]
          rfl
      · rw [decide_eq_true (show (l[i].size : Int) > w by omega)]
        refine bad true rfl ?_
        rw [eok, decide_eq_false hb]; simp

def costOf (l : List ByteArray) (w : Int) : Int × Bool := if 1 ≤ w ∧ w ≤ 80 ∧ l.length ≤ 60 ∧ linesOk w l = true then (costs w l, true) else (0, false)

theorem spec_CostOfLines_ev (l : List ByteArray) (w : Int) (hs : ∀ s ∈ l, s.size ≤ maxLen) : Ev (fun k => spec_CostOfLines.f k l w) (costOf l w) := by
  unfold spec_CostOfLines.f costOf spec_l1In.f
  by_cases h1 : w ≥ 1
  · by_cases h2 : w ≤ 80
    · simp only [if_pos h1, decide_eq_true h2, Option.bind_some, if_true]
      refine Ev.succ ?_
      by_cases h3 : l.length ≤ 60
      · simp only [spec_CostOfLines.j0, decide_eq_false (show ¬ (l.length : Int) > 60 by omega), Bool.false_eq_true, if_false]
        refine ev_eq (spec_lines l w h1 h2 h3 hs l.length 0 (by omega) rfl) ?_
        have h1' : 1 ≤ w := h1
        simp only [h1', h2, h3, true_and]
      · simp only [spec_CostOfLines.j0, decide_eq_true (show (l.length : Int) > 60 by omega), if_true]
        rw [if_neg (fun h => h3 h.2.2.1)]
        exact Ev.now _
    · simp only [if_pos h1, decide_eq_false h2, Option.bind_some, Bool.false_eq_true, if_false]
      rw [if_neg (fun h => h2 h.2.1)]
      refine Ev.succ ?_
      simp only [spec_CostOfLines.j0, if_true]
      exact Ev.now _
  · simp only [if_neg h1, Option.bind_some, Bool.false_eq_true, if_false]
    rw [if_neg (fun h => h1 h.1)]
    refine Ev.succ ?_
    simp only [spec_CostOfLines.j0, if_true]
    exact Ev.now _

theorem impl_CostOfLines_ev (l : List ByteArray) (w : Int) (hs : ∀ s ∈ l, s.size ≤ maxLen) : Ev (fun k => impl_CostOfLines.f k l w) (costOf l w) := by
  unfold impl_CostOfLines.f costOf impl_isWidth.f
  by_cases h1 : w ≥ 1
  · by_cases h2 : w ≤ 80
    · simp only [if_pos h1, decide_eq_true h2, Option.bind_some, if_true]
      refine Ev.succ ?_
      by_cases h3 : l.length ≤ 60
      · simp only [impl_CostOfLines.j0, decide_eq_false (show ¬ (l.length : Int) > 60 by omega), Bool.false_eq_true, if_false]
        refine ev_eq (impl_lines l w h1 h2 h3 hs l.length 0 0 (by omega) (by omega) (by omega)) ?_
        have h1' : 1 ≤ w := h1
        simp only [h1', h2, h3, true_and, List.drop_zero, Int.zero_add]
      · simp only [impl_CostOfLines.j0, decide_eq_true (show (l.length : Int) > 60 by omega), if_true]
        rw [if_neg (fun h => h3 h.2.2.1)]
        exact Ev.now _
    · simp only [if_pos h1, decide_eq_false h2, Option.bind_some, Bool.false_eq_true, if_false]
      rw [if_neg (fun h => h2 h.2.1)]
      refine Ev.succ ?_
      simp only [impl_CostOfLines.j0, if_true]
      exact Ev.now _
  · simp only [if_neg h1, Option.bind_some, Bool.false_eq_true, if_false]
    rw [if_neg (fun h => h1 h.1)]
    refine Ev.succ ?_
    simp only [impl_CostOfLines.j0, if_true]
    exact Ev.now _

theorem FnExactCostOfLines : PureFnExactCostOfLines := by
  intro l w ⟨hl, hs⟩ hw
  refine Ev.rounds ?_
  obtain ⟨r, h1, h2, h3⟩ := szStringS_ev l 1048576 hl hs (by omega) (by omega)
  unfold laws_FnExactCostOfLines.f
  refine Ev.bind h1 ?_
  by_cases hr : r < 0
  · simp only [if_pos hr]; exact Ev.now _
  · simp only [if_neg hr]
    have hb := h3 (by omega)
    refine Ev.bind (toStringS_ev l (by omega)) ?_
    refine Ev.bind (spec_CostOfLines_ev l w hs) ?_
    refine Ev.bind (toStringS_ev l (by omega)) ?_
    refine Ev.bind (impl_CostOfLines_ev l w hs) ?_
    simp only [if_true, bne_self_eq_false]
    refine Ev.succ ?_
    simp only [laws_FnExactCostOfLines.j0, Bool.false_eq_true, if_false]
    refine Ev.bind (toStringS_ev l (by omega)) ?_
    refine Ev.bind (eqStringS_ev l l (by omega)) ?_
    simp only [decide_true, if_true]
    exact Ev.now _

end Go.Proofs.Ytdniecpijkhpnaa.Pure
