/- The laws' marks: texts of numbers; slices of strings and of ints that are marked and held. -/
import Derived.Test.YtdniecpijkhpnaaEvs
import Derived.Test.YtdniecpijkhpnaaX49
import Derived.Test.YtdniecpijkhpnaaX23
import Derived.Test.YtdniecpijkhpnaaX24
set_option linter.unusedVariables false
set_option linter.unusedSimpArgs false
namespace Go.Proofs.Ytdniecpijkhpnaa.X
open Go.RowKit Go.Proofs.YtdniecpijkhpnaaW.PrintWords Go.Proofs.YtdniecpijkhpnaaW.PrintLast Go.Proofs.YtdniecpijkhpnaaW.PrintMore

theorem strOfNums_one (x : Int) : (strOfNums [x]).size = 1 := by simp [strOfNums, ByteArray.size]
theorem markText_loop (m : Nat) : ∀ (n : Int) (acc : ByteArray), n.toNat < m → 0 ≤ n → n + acc.size ≤ 4611686018427387904 → ∃ s, Ev (fun k => laws_markText.l0 k n acc) s := by
  induction m with
  | zero => intro n acc h; omega
  | succ m ih =>
    intro n acc h h0 hb
    by_cases hn : n > 0
    · have e1 : Int.tmod n 10 = n % 10 := Int.tmod_eq_emod_of_nonneg h0
      have e2 : Int.tdiv n 10 = n / 10 := Int.tdiv_eq_ediv_of_nonneg h0
      have hsz : ∀ x : Int, (strOfNums [x] ++ acc).size = 1 + acc.size := fun x => by rw [ByteArray.size_append, strOfNums_one]
      obtain ⟨s, hs⟩ := ih (n / 10) (strOfNums [(wrap64 (48 + (n % 10))) % 256] ++ acc) (by omega) (by omega) (by rw [hsz]; omega)
      refine ⟨s, Ev.succ ?_⟩
      simp only [laws_markText.l0, if_pos hn, Option.bind_some, strOfNums_one, if_pos (show 1 + acc.size ≤ 9223372036854775807 by omega), e1, e2, w64 (show -9223372036854775808 ≤ n / 10 by omega) (by omega)]
      exact hs
    · refine ⟨(⟨#[109]⟩ : ByteArray) ++ acc, Ev.succ ?_⟩
      simp only [laws_markText.l0, if_neg hn, if_pos (show 1 + acc.size ≤ 9223372036854775807 by omega)]
      exact Ev.now _
theorem markText_some (n : Int) (h : n ≤ 4611686018427387904) : ∃ s, Ev (fun k => laws_markText.f k n) s := by
  unfold laws_markText.f
  by_cases hn : n ≤ 0
  · simp only [if_pos hn]; exact ⟨_, Ev.now _⟩
  · simp only [if_neg hn]
    exact markText_loop (n.toNat + 1) n ⟨#[]⟩ (by omega) (by omega) (by show n + 0 ≤ _; omega)
/-- The text that marks a number. -/
noncomputable def mtext (n : Int) : ByteArray := if h : n ≤ 4611686018427387904 then Classical.choose (markText_some n h) else ByteArray.empty
theorem mtext_ev (n : Int) (h : n ≤ 4611686018427387904) : Ev (fun k => laws_markText.f k n) (mtext n) := by
  unfold mtext
  rw [dif_pos h]
  exact Classical.choose_spec (markText_some n h)

/-- A slice of n strings that is marked from k on. -/
noncomputable def marks (k : Int) (n : Nat) : List ByteArray := (List.range n).map fun i => mtext (k + (i : Nat))
theorem marks_length (k : Int) (n : Nat) : (marks k n).length = n := by simp [marks]
theorem marks_get (k : Int) (n i : Nat) (h : i < (marks k n).length) : (marks k n)[i] = mtext (k + (i : Nat)) := by simp [marks]
theorem markStringS_loop (n : Int) (h0 : 0 ≤ n) (d : Nat) : ∀ (i : Nat) (l : List ByteArray), i + d = l.length → n + l.length ≤ 1000000000 → l.take i = (marks n l.length).take i →
    Ev (fun k => laws_markStringS.l0 k l (n + (i : Int)) (i : Int)) (n + (l.length : Int), marks n l.length) := by
  induction d with
  | zero =>
    intro i l h hb ht
    refine Ev.succ ?_
    simp only [laws_markStringS.l0, if_neg (show ¬ ((i : Int) < (l.length : Int)) by omega)]
    refine ev_eq (Ev.now _) ?_
    rw [List.take_of_length_le (by omega), List.take_of_length_le (by rw [marks_length]; omega)] at ht
    rw [← ht, show (i : Int) = (l.length : Int) by omega]
  | succ d ih =>
    intro i l h hb ht
    refine Ev.succ ?_
    simp only [laws_markStringS.l0, if_pos (show ((i : Int) < (l.length : Int)) by omega)]
    refine Ev.bind (mtext_ev (n + (i : Int)) (by omega)) ?_
    simp only [if_pos (show (0 : Int) ≤ i by omega), Int.toNat_natCast, w64 (show -9223372036854775808 ≤ n + (i : Int) + 1 by omega) (by omega), w64 (show -9223372036854775808 ≤ (i : Int) + 1 by omega) (by omega)]
    have := ih (i + 1) (l.set i (mtext (n + (i : Int)))) (by simp; omega) (by simpa using hb) ?_
    · rw [List.length_set] at this
      rw [show n + (i : Int) + 1 = n + ((i + 1 : Nat) : Int) by omega, show (i : Int) + 1 = ((i + 1 : Nat) : Int) by omega]
      exact this
    · rw [List.length_set, List.take_succ_eq_append_getElem (by simp; omega), List.take_succ_eq_append_getElem (by rw [marks_length]; omega), List.take_set_of_le (by omega), ht, marks_get]
      simp
theorem markStringS_ev (l : List ByteArray) (n : Int) (h0 : 0 ≤ n) (hb : n + l.length ≤ 1000000000) : Ev (fun k => laws_markStringS.f k l n) (n + (l.length : Int), marks n l.length) := by
  have := markStringS_loop n h0 l.length 0 l (by omega) hb (by simp)
  simpa [laws_markStringS.f] using this
theorem heldStringS_loop (n : Int) (h0 : 0 ≤ n) (m : Nat) (hb : n + m ≤ 1000000000) (d : Nat) : ∀ (i : Nat), i + d = m →
    Ev (fun k => laws_heldStringS.l0 k (marks n m) (n + (i : Int)) (i : Int)) (n + (m : Int)) := by
  induction d with
  | zero =>
    intro i h
    refine Ev.succ ?_
    simp only [laws_heldStringS.l0, marks_length, if_neg (show ¬ ((i : Int) < (m : Int)) by omega)]
    refine ev_eq (Ev.now _) ?_
    omega
  | succ d ih =>
    intro i h
    refine Ev.succ ?_
    simp only [laws_heldStringS.l0, marks_length, if_pos (show ((i : Int) < (m : Int)) by omega), if_pos (show (0 : Int) ≤ i by omega), rdOf_get _ (marks n m) i (by rw [marks_length]; omega), marks_get]
    refine Ev.bind (mtext_ev (n + (i : Int)) (by omega)) ?_
    simp only [if_true, w64 (show -9223372036854775808 ≤ n + (i : Int) + 1 by omega) (by omega), w64 (show -9223372036854775808 ≤ (i : Int) + 1 by omega) (by omega)]
    rw [show n + (i : Int) + 1 = n + ((i + 1 : Nat) : Int) by omega, show (i : Int) + 1 = ((i + 1 : Nat) : Int) by omega]
    exact ih (i + 1) (by omega)
theorem heldStringS_ev (n : Int) (m : Nat) (h0 : 0 ≤ n) (hb : n + m ≤ 1000000000) : Ev (fun k => laws_heldStringS.f k (marks n m) n) (n + (m : Int)) := by
  have := heldStringS_loop n h0 m hb m 0 (by omega)
  simpa [laws_heldStringS.f] using this

end Go.Proofs.Ytdniecpijkhpnaa.X
