/- The laws' own functions on slices of strings and of ints: sizes, copies, equality. -/
import Derived.Test.YtdniecpijkhpnaaEvs
import Derived.Test.YtdniecpijkhpnaaX14
import Derived.Test.YtdniecpijkhpnaaX16
import Derived.Test.YtdniecpijkhpnaaX18
set_option linter.unusedVariables false
set_option linter.unusedSimpArgs false
namespace Go.Proofs.Ytdniecpijkhpnaa.X
open Go.RowKit Go.Proofs.YtdniecpijkhpnaaW.PrintWords Go.Proofs.YtdniecpijkhpnaaW.PrintLast Go.Proofs.YtdniecpijkhpnaaW.PrintMore

theorem eqStringS_loop (a b : List ByteArray) (hl : a.length = b.length) (hm : a.length ≤ 9223372036854775807) (d : Nat) : ∀ i : Nat, i + d = a.length →
    Ev (fun k => laws_eqStringS.l0 k a b (i : Int)) (decide (a.drop i = b.drop i)) := by
  induction d with
  | zero =>
    intro i h
    refine Ev.succ ?_
    simp only [laws_eqStringS.l0]
    simp only [if_neg (show ¬ ((i : Int) < (a.length : Int)) by omega)]
    refine ev_eq (Ev.now true) ?_
    rw [List.drop_eq_nil_of_le (by omega), List.drop_eq_nil_of_le (by omega)]; rfl
  | succ d ih =>
    intro i h
    refine Ev.succ ?_
    simp only [laws_eqStringS.l0]
    simp only [if_pos (show ((i : Int) < (a.length : Int)) by omega), if_pos (show (0 : Int) ≤ i by omega), if_pos (show ((i : Int) < (b.length : Int)) by omega), rdOf_get _ a i (by omega), rdOf_get _ b i (by omega)]
    have e : a.drop i = a[i] :: a.drop (i + 1) := List.drop_eq_getElem_cons (by omega)
    have e' : b.drop i = b[i] :: b.drop (i + 1) := List.drop_eq_getElem_cons (by omega)
    by_cases h1 : a[i].toList = b[i].toList
    · simp only [if_pos h1]
      rw [w64 (by omega) (by omega)]
      refine ev_eq (ih (i + 1) (by omega)) ?_
      rw [e, e', ba_ext h1]
      simp only [List.cons.injEq, true_and]
    · simp only [if_neg h1]
      refine ev_eq (Ev.now false) ?_
      rw [e, e']
      exact (decide_eq_false (fun h => h1 (by rw [(List.cons.inj h).1]))).symm
theorem eqStringS_ev (a b : List ByteArray) (hm : a.length ≤ 9223372036854775807) : Ev (fun k => laws_eqStringS.f k a b) (decide (a = b)) := by
  unfold laws_eqStringS.f
  by_cases hl : a.length = b.length
  · simp only [if_pos (show (a.length : Int) = (b.length : Int) by omega)]
    exact eqStringS_loop a b hl hm a.length 0 (by omega)
  · simp only [if_neg (show ¬ (a.length : Int) = (b.length : Int) by omega)]
    refine ev_eq (Ev.now false) ?_
    simp only [Bool.false_eq, decide_eq_false_iff_not]
    exact fun e => hl (by rw [e])

theorem toStringS_loop (a : List ByteArray) (hm : a.length ≤ 9223372036854775807) (d : Nat) : ∀ (i : Nat) (b : List ByteArray), i + d = a.length → b.length = a.length → b.take i = a.take i →
    Ev (fun k => laws_toStringS.l0 k a b (i : Int)) a := by
  induction d with
  | zero =>
    intro i b h hb ht
    refine Ev.succ ?_
    simp only [laws_toStringS.l0]
    simp only [if_neg (show ¬ ((i : Int) < (a.length : Int)) by omega)]
    refine ev_eq (Ev.now b) ?_
    rwa [List.take_of_length_le (by omega), List.take_of_length_le (by omega)] at ht
  | succ d ih =>
    intro i b h hb ht
    refine Ev.succ ?_
    simp only [laws_toStringS.l0]
    simp only [if_pos (show ((i : Int) < (a.length : Int)) by omega), if_pos (show (0 : Int) ≤ i by omega), if_pos (show ((i : Int) < (b.length : Int)) by omega), rdOf_get _ a i (by omega), Int.toNat_natCast]
    rw [w64 (by omega) (by omega)]
    refine ih (i + 1) _ (by omega) (by simpa using hb) ?_
    rw [List.take_succ_eq_append_getElem (by simp; omega), List.take_succ_eq_append_getElem (by omega), List.take_set_of_le (by omega), ht]
    simp
theorem toStringS_ev (a : List ByteArray) (hm : a.length ≤ 1048576) : Ev (fun k => laws_toStringS.f k a) a := by
  unfold laws_toStringS.f
  simp only [if_pos (show (0 : Int) ≤ (a.length : Int) by omega), Int.toNat_natCast, if_pos (show a.length ≤ 17592186044416 by omega)]
  exact toStringS_loop a (by omega) a.length 0 _ (by omega) (by simp) (by simp)

theorem szStringS_loop (a : List ByteArray) (hm : a.length ≤ 9223372036854775807) (hs : ∀ s ∈ a, s.size ≤ maxLen) (d : Nat) : ∀ (i : Nat) (left : Int), i + d = a.length → 0 ≤ left → left ≤ 1048576 →
    ∃ r, Ev (fun k => laws_szStringS.l0 k a left (i : Int)) r ∧ r ≤ left ∧ (0 ≤ r → ∀ s ∈ a.drop i, (s.size : Int) ≤ left) := by
  induction d with
  | zero =>
    intro i left h h0 h1
    refine ⟨left, Ev.succ ?_, Int.le_refl _, fun _ s hs => ?_⟩
    · simp only [laws_szStringS.l0]
      simp only [if_neg (show ¬ ((i : Int) < (a.length : Int)) by omega)]
      exact Ev.now _
    · rw [List.drop_eq_nil_of_le (by omega)] at hs; simp at hs
  | succ d ih =>
    intro i left h h0 h1
    have hz := hs a[i] (List.getElem_mem (by omega))
    simp only [maxLen] at hz
    have e : a.drop i = a[i] :: a.drop (i + 1) := List.drop_eq_getElem_cons (by omega)
    by_cases h2 : left - (a[i].size : Int) < 0
    · refine ⟨-1, Ev.succ ?_, by omega, fun h => by omega⟩
      simp only [laws_szStringS.l0]
      simp only [if_pos (show ((i : Int) < (a.length : Int)) by omega), if_pos (show (0 : Int) ≤ i by omega), rdOf_get _ a i (by omega), w64 (show -9223372036854775808 ≤ left - (a[i].size : Int) by omega) (by omega), if_pos h2]
      exact Ev.now _
    · obtain ⟨r, h3, h4, h5⟩ := ih (i + 1) (left - a[i].size) (by omega) (by omega) (by omega)
      refine ⟨r, Ev.succ ?_, by omega, fun hr s hs' => ?_⟩
      · simp only [laws_szStringS.l0]
        simp only [if_pos (show ((i : Int) < (a.length : Int)) by omega), if_pos (show (0 : Int) ≤ i by omega), rdOf_get _ a i (by omega), w64 (show -9223372036854775808 ≤ left - (a[i].size : Int) by omega) (by omega), if_neg h2, w64 (show -9223372036854775808 ≤ (i : Int) + 1 by omega) (by omega)]
        exact h3
      · rw [e] at hs'
        rcases List.mem_cons.1 hs' with rfl | hs'
        · omega
        · have := h5 hr s hs'; omega
theorem szStringS_ev (a : List ByteArray) (left : Int) (hm : a.length ≤ maxLen) (hs : ∀ s ∈ a, s.size ≤ maxLen) (h0 : 0 ≤ left) (h1 : left ≤ 1048576) :
    ∃ r, Ev (fun k => laws_szStringS.f k a left) r ∧ r ≤ left ∧ (0 ≤ r → (a.length : Int) ≤ left ∧ ∀ s ∈ a, (s.size : Int) ≤ left) := by
  simp only [maxLen] at hm
  unfold laws_szStringS.f
  by_cases h2 : left - (a.length : Int) < 0
  · refine ⟨-1, ?_, by omega, fun h => by omega⟩
    simp only [w64 (show -9223372036854775808 ≤ left - (a.length : Int) by omega) (by omega), if_pos h2]
    exact Ev.now _
  · obtain ⟨r, h3, h4, h5⟩ := szStringS_loop a hm hs a.length 0 (left - a.length) (by omega) (by omega) (by omega)
    refine ⟨r, ?_, by omega, fun hr => ⟨by omega, fun s hs' => by have := h5 hr s hs'; omega⟩⟩
    simp only [w64 (show -9223372036854775808 ≤ left - (a.length : Int) by omega) (by omega), if_neg h2]
    exact h3

end Go.Proofs.Ytdniecpijkhpnaa.X
