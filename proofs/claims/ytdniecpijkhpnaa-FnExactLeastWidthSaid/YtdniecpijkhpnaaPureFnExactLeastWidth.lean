/- The program's LeastWidth returns what the reference's LeastWidth returns, at every slice of strings and every number. -/
import Derived.Test.YtdniecpijkhpnaaQFnExactLeastWidth
import Derived.Test.YtdniecpijkhpnaaStrs
import Derived.Test.YtdniecpijkhpnaaGreedy
set_option linter.unusedVariables false
set_option linter.unusedSimpArgs false
namespace Go.Proofs.Ytdniecpijkhpnaa.Pure
open Go.RowKit Go.Proofs.Ytdniecpijkhpnaa.X Go.Proofs.YtdniecpijkhpnaaW.PrintWords Go.Proofs.YtdniecpijkhpnaaW.PrintLast

theorem least_loops (ws : List ByteArray) (n : Int) (hl : ws.length ≤ maxLen) (hs : ∀ s ∈ ws, s.size ≤ maxLen) (d : Nat) : ∀ i : Nat, i + d = 81 →
    ∃ r, Ev (fun k => spec_LeastWidth.l0 k ws n (i : Int)) r ∧ Ev (fun k => impl_LeastWidth.l0 k ws n (i : Int)) r := by
  induction d with
  | zero =>
    intro i h
    refine ⟨(0, false), Ev.succ ?_, Ev.succ ?_⟩
    · simp only [spec_LeastWidth.l0, if_neg (show ¬ ((i : Int) ≤ 80) by omega)]; exact Ev.now _
    · simp only [impl_LeastWidth.l0, if_neg (show ¬ ((i : Int) ≤ 80) by omega)]; exact Ev.now _
  | succ d ih =>
    intro i h
    obtain ⟨r, h1, h2⟩ := ih (i + 1) (by omega)
    cases hq : saidB ws (i : Int) with
    | false =>
      refine ⟨r, Ev.succ ?_, Ev.succ ?_⟩
      · simp only [spec_LeastWidth.l0, if_pos (show ((i : Int) ≤ 80) by omega), w64 (show -9223372036854775808 ≤ (i : Int) + 1 by omega) (by omega)]
        refine Ev.bind (said_ev ws i hl hs) ?_
        simp only [hq, Bool.false_eq_true, if_false]; exact h1
      · simp only [impl_LeastWidth.l0, if_pos (show ((i : Int) ≤ 80) by omega), w64 (show -9223372036854775808 ≤ (i : Int) + 1 by omega) (by omega), allFit_val ws i hs, Option.bind_some, hq, Bool.false_eq_true, if_false]; exact h2
    | true =>
      obtain ⟨g1, g2, _, g4, _⟩ := saidB_of hq
      by_cases hn : ((greedyB (i : Int) ws).length : Int) ≤ n
      · refine ⟨((i : Int), true), Ev.succ ?_, Ev.succ ?_⟩
        · simp only [spec_LeastWidth.l0, if_pos (show ((i : Int) ≤ 80) by omega)]
          refine Ev.bind (said_ev ws i hl hs) ?_
          simp only [hq, if_true]
          refine Ev.bind (spec_greedy_ev ws i g4 g1 (fun s h => (g2 s h).2.1)) ?_
          simp only [if_pos hn]; exact Ev.now _
        · simp only [impl_LeastWidth.l0, if_pos (show ((i : Int) ≤ 80) by omega), allFit_val ws i hs, Option.bind_some, hq, if_true]
          refine Ev.bind (impl_greedy_ev ws i g4 g1 (fun s h => (g2 s h).2.1)) ?_
          simp only [if_pos hn]; exact Ev.now _
      · refine ⟨r, Ev.succ ?_, Ev.succ ?_⟩
        · simp only [spec_LeastWidth.l0, if_pos (show ((i : Int) ≤ 80) by omega), w64 (show -9223372036854775808 ≤ (i : Int) + 1 by omega) (by omega)]
          refine Ev.bind (said_ev ws i hl hs) ?_
          simp only [hq, if_true]
          refine Ev.bind (spec_greedy_ev ws i g4 g1 (fun s h => (g2 s h).2.1)) ?_
          simp only [if_neg hn]; exact h1
        · simp only [impl_LeastWidth.l0, if_pos (show ((i : Int) ≤ 80) by omega), w64 (show -9223372036854775808 ≤ (i : Int) + 1 by omega) (by omega), allFit_val ws i hs, Option.bind_some, hq, if_true]
          refine Ev.bind (impl_greedy_ev ws i g4 g1 (fun s h => (g2 s h).2.1)) ?_
          simp only [if_neg hn]; exact h2

theorem saidB_80 (ws : List ByteArray) : saidB ws 80 = (decide (ws.length ≤ 60) && ws.all isWordB) := by
  unfold saidB
  rw [Bool.eq_iff_iff]
  simp only [Bool.and_eq_true, List.all_eq_true, decide_eq_true_eq]
  constructor
  · rintro ⟨⟨h, _⟩, _⟩; exact h
  · rintro ⟨h1, h2⟩
    exact ⟨⟨⟨h1, h2⟩, by decide, by decide⟩, fun s h => by have := (isWordB_size (h2 s h)).2; omega⟩

theorem least_ev (ws : List ByteArray) (n : Int) (hl : ws.length ≤ maxLen) (hs : ∀ s ∈ ws, s.size ≤ maxLen) : ∃ r, Ev (fun k => spec_LeastWidth.f k ws n) r ∧ Ev (fun k => impl_LeastWidth.f k ws n) r := by
  unfold spec_LeastWidth.f impl_LeastWidth.f
  cases hq : saidB ws 80 with
  | false =>
    refine ⟨(0, false), ?_, ?_⟩
    · refine Ev.bind (said_ev ws 80 hl hs) ?_
      simp only [hq, Bool.false_eq_true, if_false]
      refine Ev.succ ?_
      simp only [spec_LeastWidth.j0, if_true]; exact Ev.now _
    · simp only [areWords_val ws hs, Option.bind_some, ← saidB_80, hq, Bool.false_eq_true, if_false]
      refine Ev.succ ?_
      simp only [impl_LeastWidth.j0, if_true]; exact Ev.now _
  | true =>
    have hin : ∀ b : Bool, ∃ r, Ev (fun k => spec_LeastWidth.j0 k ws n b) r ∧ Ev (fun k => impl_LeastWidth.j0 k ws n b) r := by
      intro b
      cases b with
      | true =>
        refine ⟨(0, false), Ev.succ ?_, Ev.succ ?_⟩
        · simp only [spec_LeastWidth.j0, if_true]; exact Ev.now _
        · simp only [impl_LeastWidth.j0, if_true]; exact Ev.now _
      | false =>
        by_cases h0 : ws.length = 0
        · refine ⟨(0, true), Ev.succ ?_, Ev.succ ?_⟩
          · simp only [spec_LeastWidth.j0, Bool.false_eq_true, if_false, if_pos (show (ws.length : Int) = 0 by omega)]; exact Ev.now _
          · simp only [impl_LeastWidth.j0, Bool.false_eq_true, if_false, if_pos (show (ws.length : Int) = 0 by omega)]; exact Ev.now _
        · obtain ⟨r, h1, h2⟩ := least_loops ws n hl hs 80 1 (by omega)
          refine ⟨r, Ev.succ ?_, Ev.succ ?_⟩
          · simp only [spec_LeastWidth.j0, Bool.false_eq_true, if_false, if_neg (show ¬ (ws.length : Int) = 0 by omega)]; exact h1
          · simp only [impl_LeastWidth.j0, Bool.false_eq_true, if_false, if_neg (show ¬ (ws.length : Int) = 0 by omega)]; exact h2
    obtain ⟨r, h1, h2⟩ := hin (!(decide (1 ≤ n) && decide (n ≤ 60)))
    refine ⟨r, ?_, ?_⟩
    · refine Ev.bind (said_ev ws 80 hl hs) ?_
      simp only [hq, if_true, l1In_val, Option.bind_some]; exact h1
    · simp only [areWords_val ws hs, Option.bind_some, ← saidB_80, hq, if_true]
      by_cases hn : n < 1
      · rw [decide_eq_false (show ¬ 1 ≤ n by omega)] at h2
        simp only [if_pos hn]; exact h2
      · rw [decide_eq_true (show 1 ≤ n by omega)] at h2
        simp only [if_neg hn]
        rw [show decide (n > 60) = !(true && decide (n ≤ 60)) by rw [Bool.eq_iff_iff]; simp]
        exact h2

theorem FnExactLeastWidth : PureFnExactLeastWidth := by
  intro l w ⟨hl, hs⟩ hw
  refine Ev.rounds ?_
  obtain ⟨r, h1, h2, h3⟩ := szStringS_ev l 1048576 hl hs (by omega) (by omega)
  unfold laws_FnExactLeastWidth.f
  refine Ev.bind h1 ?_
  by_cases hr : r < 0
  · simp only [if_pos hr]; exact Ev.now _
  · simp only [if_neg hr]
    have hb := h3 (by omega)
    obtain ⟨v, hv1, hv2⟩ := least_ev l w hl hs
    refine Ev.bind (toStringS_ev l (by omega)) ?_
    refine Ev.bind hv1 ?_
    refine Ev.bind (toStringS_ev l (by omega)) ?_
    refine Ev.bind hv2 ?_
    simp only [if_true, bne_self_eq_false]
    refine Ev.succ ?_
    simp only [laws_FnExactLeastWidth.j0, Bool.false_eq_true, if_false]
    refine Ev.bind (toStringS_ev l (by omega)) ?_
    refine Ev.bind (eqStringS_ev l l (by omega)) ?_
    simp only [decide_true, if_true]
    exact Ev.now _

end Go.Proofs.Ytdniecpijkhpnaa.Pure
