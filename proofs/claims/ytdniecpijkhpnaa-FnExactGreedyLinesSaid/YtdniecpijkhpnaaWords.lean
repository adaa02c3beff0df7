/- What a word of a paragraph is, and that the program and the reference ask the same. -/
import Derived.Test.YtdniecpijkhpnaaEvs
import Derived.Test.YtdniecpijkhpnaaX67
import Derived.Test.YtdniecpijkhpnaaX51
set_option linter.unusedVariables false
set_option linter.unusedSimpArgs false
namespace Go.Proofs.Ytdniecpijkhpnaa.X
open Go.RowKit Go.Proofs.YtdniecpijkhpnaaW.PrintWords Go.Proofs.YtdniecpijkhpnaaW.PrintLast Go.Proofs.YtdniecpijkhpnaaW.PrintMore

/-- A plain byte (a-z, 0-9, blank, '.', ','). -/
def plainB (c : Int) : Bool := (decide (97 ≤ c) && decide (c ≤ 122)) || (decide (48 ≤ c) && decide (c ≤ 57)) || decide (c = 32) || decide (c = 46) || decide (c = 44)
theorem impl_isPlain_val (c : Int) : impl_isPlain.f c = some (plainB c) := by
  unfold impl_isPlain.f plainB
  repeat' split
  all_goals simp only [Option.some.injEq]
  all_goals (first | (simp; omega) | (rw [Bool.eq_iff_iff]; simp; omega) | (rw [eq_comm]; simp; omega))
theorem spec_l1Plain_val (c : Int) : spec_l1Plain.f c = some (plainB c) := by
  unfold spec_l1Plain.f plainB
  repeat' split
  all_goals simp only [Option.some.injEq]
  all_goals (first | (simp; omega) | (rw [Bool.eq_iff_iff]; simp; omega) | (rw [eq_comm]; simp; omega))
/-- All bytes from i on are plain and no blanks. -/
def solidFrom (s : ByteArray) (i : Nat) : Bool := (List.range (s.size - i)).all fun j => plainB (bt s ((i + j : Nat) : Int)) && decide (bt s ((i + j : Nat) : Int) ≠ 32)
theorem solidFrom_end (s : ByteArray) (i : Nat) (h : s.size ≤ i) : solidFrom s i = true := by
  unfold solidFrom; rw [Nat.sub_eq_zero_of_le h]; rfl
theorem solidFrom_step (s : ByteArray) (i : Nat) (h : i < s.size) : solidFrom s i = (plainB (bt s (i : Int)) && decide (bt s (i : Int) ≠ 32) && solidFrom s (i + 1)) := by
  unfold solidFrom
  obtain ⟨d, hd⟩ : ∃ d, s.size - i = d + 1 := ⟨s.size - i - 1, by omega⟩
  rw [hd, show s.size - (i + 1) = d by omega, List.range_succ_eq_map]
  simp only [List.all_cons, List.all_map, Nat.add_zero]
  congr 1
  congr 1
  funext j
  simp only [Function.comp, Nat.succ_eq_add_one]
  rw [show i + (j + 1) = i + 1 + j by omega]
/-- A word: 1 to 80 plain bytes but blanks. -/
def isWordB (s : ByteArray) : Bool := solidFrom s 0 && decide (1 ≤ s.size) && decide (s.size ≤ 80)

theorem isWordText_loop (s : ByteArray) (hs : s.size ≤ 9223372036854775807) (d : Nat) : ∀ i : Nat, i + d = s.size → Ev (fun k => impl_isWordText.l0 k s (s.size : Int) (i : Int)) (solidFrom s i && decide (1 ≤ s.size) && decide (s.size ≤ 80)) := by
  induction d with
  | zero =>
    intro i h
    refine Ev.succ ?_
    simp only [impl_isWordText.l0, if_neg (show ¬ ((i : Int) < (s.size : Int)) by omega)]
    rw [solidFrom_end s i (by omega)]
    by_cases h0 : s.toList = ([] : List UInt8)
    · simp only [if_pos h0]
      have : s.size = 0 := by
        have h := congrArg List.length h0
        rw [ByteArray.toList_eq] at h
        simpa using h
      rw [this]; exact Ev.now _
    · simp only [if_neg h0]
      have : 1 ≤ s.size := by
        rcases Nat.eq_zero_or_pos s.size with h1 | h1
        · exfalso; apply h0
          rw [ByteArray.toList_eq]
          exact List.eq_nil_of_length_eq_zero (by simpa using h1)
        · omega
      refine ev_eq (Ev.now _) ?_
      rw [decide_eq_true this, Bool.eq_iff_iff]; simp; omega
  | succ d ih =>
    intro i h
    refine Ev.succ ?_
    simp only [impl_isWordText.l0, if_pos (show ((i : Int) < (s.size : Int)) by omega), if_pos (show (0 : Int) ≤ i by omega), impl_isPlain_val, Option.bind_some, w64 (show -9223372036854775808 ≤ (i : Int) + 1 by omega) (by omega)]
    rw [solidFrom_step s i (by omega)]
    cases hp : plainB (bt s (i : Int)) with
    | false => simp only [Bool.false_eq_true, if_false]; exact Ev.now _
    | true =>
      simp only [if_true]
      by_cases h32 : bt s (i : Int) = 32
      · simp only [if_pos h32, h32]; exact Ev.now _
      · simp only [if_neg h32]
        refine ev_eq (ih (i + 1) (by omega)) ?_
        simp [h32]
theorem isWordText_ev (s : ByteArray) (hs : s.size ≤ maxLen) : Ev (fun k => impl_isWordText.f k s) (isWordB s) := isWordText_loop s (by simpa [maxLen] using hs) s.size 0 (by omega)

theorem l13Word_loop (s : ByteArray) (hs : s.size ≤ 9223372036854775807) (d : Nat) : ∀ i : Nat, i + d = s.size → Ev (fun k => spec_l13Word.l0 k s (i : Int)) (solidFrom s i && decide (1 ≤ s.size) && decide (s.size ≤ 80)) := by
  induction d with
  | zero =>
    intro i h
    refine Ev.succ ?_
    simp only [spec_l13Word.l0, if_neg (show ¬ ((i : Int) < (s.size : Int)) by omega)]
    rw [solidFrom_end s i (by omega)]
    unfold spec_l1In.f
    by_cases h0 : (s.size : Int) ≥ 1
    · simp only [if_pos h0, Option.bind_some]
      refine ev_eq (Ev.now _) ?_
      rw [decide_eq_true (show 1 ≤ s.size by omega), Bool.eq_iff_iff]; simp; omega
    · simp only [if_neg h0, Option.bind_some]
      refine ev_eq (Ev.now _) ?_
      rw [decide_eq_false (show ¬ 1 ≤ s.size by omega)]; simp
  | succ d ih =>
    intro i h
    refine Ev.succ ?_
    simp only [spec_l13Word.l0, if_pos (show ((i : Int) < (s.size : Int)) by omega), if_pos (show (0 : Int) ≤ i by omega), spec_l1Plain_val, Option.bind_some, w64 (show -9223372036854775808 ≤ (i : Int) + 1 by omega) (by omega)]
    rw [solidFrom_step s i (by omega)]
    cases hp : plainB (bt s (i : Int)) with
    | false => simp only [Bool.false_eq_true, if_false]; exact Ev.now _
    | true =>
      simp only [if_true]
      by_cases h32 : bt s (i : Int) = 32
      · simp only [if_pos h32, h32]; exact Ev.now _
      · simp only [if_neg h32]
        refine ev_eq (ih (i + 1) (by omega)) ?_
        simp [h32]
theorem l13Word_ev (s : ByteArray) (hs : s.size ≤ maxLen) : Ev (fun k => spec_l13Word.f k s) (isWordB s) := l13Word_loop s (by simpa [maxLen] using hs) s.size 0 (by omega)

end Go.Proofs.Ytdniecpijkhpnaa.X
