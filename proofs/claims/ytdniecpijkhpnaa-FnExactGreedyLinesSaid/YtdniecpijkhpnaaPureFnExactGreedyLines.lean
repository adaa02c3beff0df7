/- The program's GreedyLines returns what the reference's GreedyLines returns, at every slice of strings and every width; its answer is new memory, and nothing is written into the argument. -/
import Derived.Test.YtdniecpijkhpnaaQFnExactGreedyLines
import Derived.Test.YtdniecpijkhpnaaStrs
import Derived.Test.YtdniecpijkhpnaaMarks
import Derived.Test.YtdniecpijkhpnaaGreedy
set_option linter.unusedVariables false
set_option linter.unusedSimpArgs false
namespace Go.Proofs.Ytdniecpijkhpnaa.Pure
open Go.RowKit Go.Proofs.Ytdniecpijkhpnaa.X Go.Proofs.YtdniecpijkhpnaaW.PrintWords Go.Proofs.YtdniecpijkhpnaaW.PrintLast

def greedyOf (ws : List ByteArray) (w : Int) : List ByteArray × Bool := if saidB ws w = true then (greedyB w ws, true) else ([], false)
theorem spec_GreedyLines_ev (ws : List ByteArray) (w : Int) (hl : ws.length ≤ maxLen) (hs : ∀ s ∈ ws, s.size ≤ maxLen) : Ev (fun k => spec_GreedyLines.f k ws w) (greedyOf ws w) := by
  unfold spec_GreedyLines.f greedyOf
  refine Ev.bind (said_ev ws w hl hs) ?_
  cases hq : saidB ws w with
  | false => simp only [Bool.false_eq_true, if_false]; exact Ev.now _
  | true =>
    obtain ⟨g1, g2, _, g4, _⟩ := saidB_of hq
    simp only [if_true]
    refine Ev.bind (spec_greedy_ev ws w g4 g1 (fun s h => (g2 s h).2.1)) ?_
    exact Ev.now _
theorem impl_GreedyLines_ev (ws : List ByteArray) (w : Int) (hs : ∀ s ∈ ws, s.size ≤ maxLen) : Ev (fun k => impl_GreedyLines.f k ws w) (greedyOf ws w) := by
  unfold impl_GreedyLines.f greedyOf
  simp only [allFit_val ws w hs, Option.bind_some]
  cases hq : saidB ws w with
  | false => simp only [Bool.false_eq_true, if_false]; exact Ev.now _
  | true =>
    obtain ⟨g1, g2, _, g4, _⟩ := saidB_of hq
    simp only [if_true]
    refine Ev.bind (impl_greedy_ev ws w g4 g1 (fun s h => (g2 s h).2.1)) ?_
    exact Ev.now _
theorem greedyOf_length (ws : List ByteArray) (w : Int) : (greedyOf ws w).1.length ≤ 61 := by
  unfold greedyOf
  cases hq : saidB ws w with
  | false => simp
  | true =>
    obtain ⟨g1, _⟩ := saidB_of hq
    simp only [if_true]
    cases ws with
    | nil => simp [greedyB]
    | cons s l =>
      have := (greedyGo_length w s l).2
      simp only [List.length_cons] at g1
      show (greedyGo w s l).length ≤ 61
      omega

theorem FnExactGreedyLines : PureFnExactGreedyLines := by
  intro l w ⟨hl, hs⟩ hw
  refine Ev.rounds ?_
  obtain ⟨r, h1, h2, h3⟩ := szStringS_ev l 1048576 hl hs (by omega) (by omega)
  unfold laws_FnExactGreedyLines.f
  refine Ev.bind h1 ?_
  by_cases hr : r < 0
  · simp only [if_pos hr]; exact Ev.now _
  · simp only [if_neg hr]
    have hb := (h3 (by omega)).1
    have hto := toStringS_ev l (by omega)
    have hsp := spec_GreedyLines_ev l w hl hs
    have him := impl_GreedyLines_ev l w hs
    have hlen := greedyOf_length l w
    generalize greedyOf l w = v at hsp him hlen
    obtain ⟨v1, v2⟩ := v
    simp only at hlen
    have heq := eqStringS_ev v1 v1 (by omega)
    refine Ev.bind hto ?_
    refine Ev.bind hsp ?_
    refine Ev.bind hto ?_
    refine Ev.bind him ?_
    refine Ev.bind heq ?_
    simp only [decide_true, if_true, bne_self_eq_false]
    refine Ev.succ ?_
    simp only [laws_FnExactGreedyLines.j0, Bool.false_eq_true, if_false]
    refine Ev.bind hto ?_
    refine Ev.bind (eqStringS_ev l l (by omega)) ?_
    simp only [decide_true, if_true]
    refine Ev.bind (markStringS_ev l 1 (by omega) (by omega)) ?_
    simp only [if_neg (show ¬ (1 + (l.length : Int) < 0) by omega)]
    refine Ev.bind heq ?_
    simp only [decide_true, if_true, bne_self_eq_false]
    refine Ev.succ ?_
    simp only [laws_FnExactGreedyLines.j1, Bool.false_eq_true, if_false]
    refine Ev.bind (markStringS_ev v1 1 (by omega) (by omega)) ?_
    have hheld := heldStringS_ev 1 v1.length (by omega) (by omega)
    refine Ev.bind hheld ?_
    simp only [if_neg (show ¬ (1 + (v1.length : Int) < 0) by omega), if_true]
    refine Ev.bind hto ?_
    refine Ev.bind him ?_
    refine Ev.bind heq ?_
    simp only [decide_true, if_true, bne_self_eq_false]
    refine Ev.succ ?_
    simp only [laws_FnExactGreedyLines.j2, Bool.false_eq_true, if_false]
    refine Ev.bind hheld ?_
    simp only [if_neg (show ¬ (1 + (v1.length : Int) < 0) by omega), if_true]
    exact Ev.now _

end Go.Proofs.Ytdniecpijkhpnaa.Pure
