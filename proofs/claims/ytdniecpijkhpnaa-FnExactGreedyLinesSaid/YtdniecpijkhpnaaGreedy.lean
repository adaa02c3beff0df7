/- Lines with as many words as fit: the program's way and the reference's come to the same. -/
import Derived.Test.YtdniecpijkhpnaaHandA
import Derived.Test.YtdniecpijkhpnaaX48
import Derived.Test.YtdniecpijkhpnaaX45
import Derived.Test.YtdniecpijkhpnaaX44
set_option linter.unusedVariables false
set_option linter.unusedSimpArgs false
namespace Go.Proofs.Ytdniecpijkhpnaa.X
open Go.RowKit Go.Proofs.YtdniecpijkhpnaaW.PrintWords Go.Proofs.YtdniecpijkhpnaaW.PrintLast Go.Proofs.YtdniecpijkhpnaaW.PrintMore

abbrev blankB : ByteArray := ⟨#[32]⟩
theorem blankB_size : blankB.size = 1 := rfl

/-- Words, at most 60, and a width; each fits. -/
def saidB (ws : List ByteArray) (w : Int) : Bool := decide (ws.length ≤ 60) && ws.all isWordB && (decide (1 ≤ w) && decide (w ≤ 80)) && ws.all (fun s => decide ((s.size : Int) ≤ w))

theorem allFit_val (ws : List ByteArray) (w : Int) (hs : ∀ s ∈ ws, s.size ≤ maxLen) : impl_allFit.f ws w = some (saidB ws w) := by
  unfold impl_allFit.f saidB
  rw [if_pos (by simpa using hs)]
theorem areWords_val (ws : List ByteArray) (hs : ∀ s ∈ ws, s.size ≤ maxLen) : impl_areWords.f ws = some (decide (ws.length ≤ 60) && ws.all isWordB) := by
  unfold impl_areWords.f
  rw [if_pos (by simpa using hs)]

theorem l1In_val (a lo hi : Int) : spec_l1In.f a lo hi = some (decide (lo ≤ a) && decide (a ≤ hi)) := by
  unfold spec_l1In.f
  by_cases h : a ≥ lo
  · rw [if_pos h, decide_eq_true (show lo ≤ a from h)]; simp
  · rw [if_neg h, decide_eq_false (show ¬ lo ≤ a from h)]; simp

theorem said_loop (ws : List ByteArray) (w : Int) (hl : ws.length ≤ 9223372036854775807) (hs : ∀ s ∈ ws, s.size ≤ maxLen) (d : Nat) : ∀ i : Nat, i + d = ws.length →
    Ev (fun k => spec_l13Said.l0 k ws w ws (ws.length : Int) (i : Int)) ((ws.drop i).all (fun s => isWordB s && decide ((s.size : Int) ≤ w)) && decide (ws.length ≤ 60) && (decide (1 ≤ w) && decide (w ≤ 80))) := by
  induction d with
  | zero =>
    intro i h
    refine Ev.succ ?_
    simp only [spec_l13Said.l0, if_neg (show ¬ ((i : Int) < (ws.length : Int)) by omega), l1In_val, Option.bind_some]
    rw [List.drop_eq_nil_of_le (by omega)]
    by_cases h60 : ws.length ≤ 60
    · simp only [if_pos (show (ws.length : Int) ≤ 60 by omega)]
      refine ev_eq (Ev.now _) ?_
      simp [h60]
    · simp only [if_neg (show ¬ (ws.length : Int) ≤ 60 by omega)]
      refine ev_eq (Ev.now _) ?_
      simp [h60]
  | succ d ih =>
    intro i h
    have e : ws.drop i = ws[i] :: ws.drop (i + 1) := List.drop_eq_getElem_cons (by omega)
    refine Ev.succ ?_
    simp only [spec_l13Said.l0, if_pos (show ((i : Int) < (ws.length : Int)) by omega), if_pos (show (0 : Int) ≤ i by omega), rdOf_get _ ws i (by omega), w64 (show -9223372036854775808 ≤ (i : Int) + 1 by omega) (by omega)]
    refine Ev.bind (l13Word_ev ws[i] (hs _ (List.getElem_mem (by omega)))) ?_
    rw [e, List.all_cons]
    cases hq : isWordB ws[i] with
    | false => simp only [Bool.false_eq_true, if_false, Bool.false_and]; exact Ev.now _
    | true =>
      simp only [if_true]
      by_cases hw : (ws[i].size : Int) > w
      · simp only [if_pos hw]
        refine ev_eq (Ev.now _) ?_
        rw [decide_eq_false (show ¬ (ws[i].size : Int) ≤ w by omega)]; simp
      · simp only [if_neg hw]
        refine ev_eq (ih (i + 1) (by omega)) ?_
        rw [decide_eq_true (show (ws[i].size : Int) ≤ w by omega)]; simp
theorem said_ev (ws : List ByteArray) (w : Int) (hl : ws.length ≤ maxLen) (hs : ∀ s ∈ ws, s.size ≤ maxLen) : Ev (fun k => spec_l13Said.f k ws w) (saidB ws w) := by
  refine ev_eq (said_loop ws w (by simpa [maxLen] using hl) hs ws.length 0 (by omega)) ?_
  unfold saidB
  rw [List.drop_zero, Bool.eq_iff_iff]
  simp only [Bool.and_eq_true, List.all_eq_true, decide_eq_true_eq]
  constructor
  · rintro ⟨⟨h1, h2⟩, h3⟩
    exact ⟨⟨⟨h2, fun s h => (h1 s h).1⟩, h3⟩, fun s h => (h1 s h).2⟩
  · rintro ⟨⟨⟨h2, h1⟩, h3⟩, h4⟩
    exact ⟨⟨fun s h => ⟨h1 s h, h4 s h⟩, h2⟩, h3⟩
theorem isWordB_size {s : ByteArray} (h : isWordB s = true) : 1 ≤ s.size ∧ s.size ≤ 80 := by
  unfold isWordB at h
  simp only [Bool.and_eq_true, decide_eq_true_eq] at h
  exact ⟨h.1.2, h.2⟩
theorem saidB_of {ws : List ByteArray} {w : Int} (h : saidB ws w = true) : ws.length ≤ 60 ∧ (∀ s ∈ ws, 1 ≤ s.size ∧ s.size ≤ 80 ∧ (s.size : Int) ≤ w) ∧ 1 ≤ w ∧ w ≤ 80 ∧ ∀ s ∈ ws, isWordB s = true := by
  unfold saidB at h
  simp only [Bool.and_eq_true, List.all_eq_true, decide_eq_true_eq] at h
  obtain ⟨⟨⟨h1, h2⟩, h3, h4⟩, h5⟩ := h
  exact ⟨h1, fun s hs => ⟨(isWordB_size (h2 s hs)).1, (isWordB_size (h2 s hs)).2, h5 s hs⟩, h3, h4, h2⟩

/-! ### join -/
def joinGo (acc : ByteArray) : List ByteArray → ByteArray
  | [] => acc
  | s :: l => joinGo (acc ++ blankB ++ s) l
def joinB : List ByteArray → ByteArray
  | [] => ⟨#[]⟩
  | s :: l => joinGo s l
theorem joinGo_size (acc : ByteArray) (l : List ByteArray) : (joinGo acc l).size = acc.size + (l.map (fun s => s.size + 1)).sum := by
  induction l generalizing acc with
  | nil => simp [joinGo]
  | cons s l ih => rw [joinGo, ih]; simp [ByteArray.size_append, blankB_size]; omega
theorem joinGo_append (acc : ByteArray) (l m : List ByteArray) : joinGo acc (l ++ m) = joinGo (joinGo acc l) m := by
  induction l generalizing acc with
  | nil => rfl
  | cons s l ih => rw [List.cons_append, joinGo, joinGo, ih]
theorem sum_bd (l : List ByteArray) (b : Nat) (h : ∀ s ∈ l, s.size ≤ b) : (l.map (fun s => s.size + 1)).sum ≤ l.length * (b + 1) := by
  induction l with
  | nil => simp
  | cons s l ih =>
    have h1 := h s (List.mem_cons_self ..)
    have h2 := ih (fun t ht => h t (List.mem_cons_of_mem _ ht))
    simp only [List.map_cons, List.sum_cons, List.length_cons, Nat.add_mul]
    omega

theorem join_loop (ws : List ByteArray) (hl : ws.length ≤ 1000000) (hs : ∀ s ∈ ws, s.size ≤ 1048576) (d : Nat) : ∀ (i : Nat) (acc : ByteArray), 0 < i → i + d = ws.length → acc.size ≤ i * 1048577 →
    Ev (fun k => spec_l13Join.l0 k acc ws (ws.length : Int) (i : Int)) (joinGo acc (ws.drop i)) := by
  induction d with
  | zero =>
    intro i acc h0 h ha
    refine Ev.succ ?_
    simp only [spec_l13Join.l0, if_neg (show ¬ ((i : Int) < (ws.length : Int)) by omega)]
    rw [List.drop_eq_nil_of_le (by omega)]
    exact Ev.now _
  | succ d ih =>
    intro i acc h0 h ha
    have e : ws.drop i = ws[i] :: ws.drop (i + 1) := List.drop_eq_getElem_cons (by omega)
    have hz := hs ws[i] (List.getElem_mem (by omega))
    refine Ev.succ ?_
    simp only [spec_l13Join.l0, if_pos (show ((i : Int) < (ws.length : Int)) by omega), if_pos (show (0 : Int) ≤ i by omega), if_pos (show (i : Int) > 0 by omega), rdOf_get _ ws i (by omega), w64 (show -9223372036854775808 ≤ (i : Int) + 1 by omega) (by omega), if_pos (show acc.size + 1 ≤ 9223372036854775807 by omega)]
    simp only [if_pos (show (acc ++ (⟨#[32]⟩ : ByteArray)).size + ws[i].size ≤ 9223372036854775807 by rw [ByteArray.size_append]; show acc.size + 1 + _ ≤ _; omega)]
    rw [e, joinGo]
    refine ih (i + 1) _ (by omega) (by omega) ?_
    rw [ByteArray.size_append, ByteArray.size_append]
    show acc.size + 1 + _ ≤ _
    omega

theorem join_ev (ws : List ByteArray) (hl : ws.length ≤ 1000000) (hs : ∀ s ∈ ws, s.size ≤ 1048576) : Ev (fun k => spec_l13Join.f k ws) (joinB ws) := by
  unfold spec_l13Join.f
  cases ws with
  | nil =>
    refine Ev.succ ?_
    simp only [spec_l13Join.l0, List.length_nil]
    exact Ev.now _
  | cons s l =>
    have hz := hs s (List.mem_cons_self ..)
    refine Ev.succ ?_
    have e0 : rdOf ByteArray.empty (s :: l) 0 = s := rfl
    simp only [spec_l13Join.l0, if_pos (show (0 : Int) < ((s :: l).length : Int) by rw [List.length_cons]; omega), if_pos (show (0 : Int) ≤ 0 by omega), if_neg (show ¬ (0 : Int) > 0 by omega), e0, w64 (show -9223372036854775808 ≤ (0 : Int) + 1 by omega) (by omega)]
    have z0 : (⟨#[]⟩ : ByteArray).size = 0 := rfl
    have z1 : (⟨#[]⟩ : ByteArray) ++ s = s := ByteArray.empty_append
    simp only [z0, if_pos (show 0 + s.size ≤ 9223372036854775807 by omega), z1]
    exact join_loop (s :: l) hl hs l.length 1 s (by omega) (by rw [List.length_cons]; omega) (by omega)

/-! ### greedy -/
def greedyGo (w : Int) (cur : ByteArray) : List ByteArray → List ByteArray
  | [] => [cur]
  | x :: xs => if (cur.size : Int) + 1 + x.size ≤ w then greedyGo w (cur ++ blankB ++ x) xs else cur :: greedyGo w x xs
def greedyB (w : Int) : List ByteArray → List ByteArray
  | [] => []
  | x :: xs => greedyGo w x xs
theorem greedyGo_length (w : Int) (cur : ByteArray) (l : List ByteArray) : 1 ≤ (greedyGo w cur l).length ∧ (greedyGo w cur l).length ≤ l.length + 1 := by
  induction l generalizing cur with
  | nil => simp [greedyGo]
  | cons x xs ih =>
    unfold greedyGo
    split
    · have := ih (cur ++ blankB ++ x); simp only [List.length_cons]; omega
    · have := ih x; simp only [List.length_cons]; omega

theorem impl_greedy_loop (ws : List ByteArray) (w : Int) (hw : w ≤ 80) (hl : ws.length ≤ 60) (hs : ∀ s ∈ ws, s.size ≤ 80) (d : Nat) : ∀ (i : Nat) (done : List ByteArray) (cur : ByteArray), i + d = ws.length → done.length + 1 ≤ i → cur.size ≤ 80 →
    Ev (fun k => impl_greedy.l0 k w (done ++ [cur]) ws (ws.length : Int) (i : Int)) (done ++ greedyGo w cur (ws.drop i)) := by
  induction d with
  | zero =>
    intro i done cur h hd hc
    refine Ev.succ ?_
    simp only [impl_greedy.l0, if_neg (show ¬ ((i : Int) < (ws.length : Int)) by omega)]
    rw [List.drop_eq_nil_of_le (by omega)]
    exact Ev.now _
  | succ d ih =>
    intro i done cur h hd hc
    have e : ws.drop i = ws[i] :: ws.drop (i + 1) := List.drop_eq_getElem_cons (by omega)
    have hz := hs ws[i] (List.getElem_mem (by omega))
    have hk : wrap64 (((done ++ [cur]).length : Int) - 1) = (done.length : Int) := by
      rw [List.length_append, List.length_singleton]
      rw [w64 (by omega) (by omega)]; omega
    have hr : rdOf ByteArray.empty (done ++ [cur]) (done.length : Int) = cur := by rw [rdOf_get _ _ _ (by simp)]; simp
    refine Ev.succ ?_
    simp only [impl_greedy.l0, if_pos (show ((i : Int) < (ws.length : Int)) by omega), if_pos (show (0 : Int) ≤ i by omega), rdOf_get _ ws i (by omega), hk, hr, if_pos (show (done.length : Int) ≥ 0 by omega), if_pos (show (done.length : Int) < ((done ++ [cur]).length : Int) by rw [List.length_append, List.length_singleton]; omega), w64 (show -9223372036854775808 ≤ (i : Int) + 1 by omega) (by omega), w64 (show -9223372036854775808 ≤ (cur.size : Int) + 1 by omega) (by omega), w64 (show -9223372036854775808 ≤ (cur.size : Int) + 1 + (ws[i].size : Int) by omega) (by omega), Int.toNat_natCast]
    rw [e, greedyGo]
    by_cases hf : (cur.size : Int) + 1 + (ws[i].size : Int) ≤ w
    · simp only [if_pos hf, if_pos (show 1 + ws[i].size ≤ 9223372036854775807 by omega)]
      simp only [if_pos (show cur.size + ((⟨#[32]⟩ : ByteArray) ++ ws[i]).size ≤ 9223372036854775807 by rw [ByteArray.size_append]; show cur.size + (1 + _) ≤ _; omega)]
      have hset : (done ++ [cur]).set done.length (cur ++ (blankB ++ ws[i])) = done ++ [cur ++ blankB ++ ws[i]] := by rw [ByteArray.append_assoc]; simp
      rw [hset]
      refine ih (i + 1) done _ (by omega) (by omega) ?_
      rw [ByteArray.size_append, ByteArray.size_append, blankB_size]; omega
    · simp only [if_neg hf, if_pos (show (done ++ [cur]).length < 8796093022208 by simp; omega)]
      refine ev_eq (ih (i + 1) (done ++ [cur]) ws[i] (by omega) (by simp; omega) hz) ?_
      rw [List.append_assoc]; rfl
theorem impl_greedy_ev (ws : List ByteArray) (w : Int) (hw : w ≤ 80) (hl : ws.length ≤ 60) (hs : ∀ s ∈ ws, s.size ≤ 80) : Ev (fun k => impl_greedy.f k ws w) (greedyB w ws) := by
  unfold impl_greedy.f
  cases ws with
  | nil =>
    refine Ev.succ ?_
    simp only [impl_greedy.l0, List.length_nil]
    exact Ev.now _
  | cons s l =>
    refine Ev.succ ?_
    have e0 : rdOf ByteArray.empty (s :: l) 0 = s := rfl
    have en : wrap64 ((([] : List ByteArray).length : Int) - 1) = -1 := by rw [List.length_nil]; exact w64 (by omega) (by omega)
    simp only [impl_greedy.l0, if_pos (show (0 : Int) < ((s :: l).length : Int) by rw [List.length_cons]; omega), if_pos (show (0 : Int) ≤ 0 by omega), en, if_neg (show ¬ (-1 : Int) ≥ 0 by omega), e0, if_pos (show ([] : List ByteArray).length < 8796093022208 by simp), w64 (show -9223372036854775808 ≤ (0 : Int) + 1 by omega) (by omega)]
    exact impl_greedy_loop (s :: l) w hw hl hs l.length 1 [] s (by rw [List.length_cons]; omega) (by simp) (hs s (List.mem_cons_self ..))

theorem spec_greedy_in (w : Int) (hw : w ≤ 80) (rest : Nat) (ih : ∀ (m : List ByteArray) (out : List ByteArray), m.length < rest → (∀ s ∈ m, s.size ≤ 80) → out.length + m.length ≤ 60 → Ev (fun k => spec_l13Greedy.l0 k m w out) (out ++ greedyB w m)) :
    ∀ (d n : Nat) (ws out : List ByteArray), ws.length = rest → (∀ s ∈ ws, s.size ≤ 80) → out.length + ws.length ≤ 60 → 1 ≤ n → n + d = ws.length →
      Ev (fun k => spec_l13Greedy.l1 k ws w out (n : Int)) (out ++ greedyGo w (joinB (ws.take n)) (ws.drop n)) := by
  intro d
  induction d with
  | zero =>
    intro n ws out hr hs hl h1 hn
    refine Ev.succ ?_
    simp only [spec_l13Greedy.l1, if_neg (show ¬ ((n : Int) < (ws.length : Int)) by omega), if_pos (show (0 : Int) ≤ n by omega), if_pos (show (n : Int) ≤ (ws.length : Int) by omega), Int.toNat_natCast]
    refine Ev.bind (join_ev (ws.take n) (by rw [List.length_take]; omega) (fun s h => by have := hs s (List.mem_of_mem_take h); omega)) ?_
    simp only [if_pos (show out.length < 8796093022208 by omega)]
    refine ev_eq (ih (ws.drop n) _ (by rw [List.length_drop]; omega) (fun s h => hs s (List.mem_of_mem_drop h)) (by rw [List.length_append, List.length_singleton, List.length_drop]; omega)) ?_
    rw [List.drop_eq_nil_of_le (by omega)]
    simp [greedyB, greedyGo]
  | succ d ihd =>
    intro n ws out hr hs hl h1 hn
    have e : ws.drop n = ws[n] :: ws.drop (n + 1) := List.drop_eq_getElem_cons (by omega)
    have hz := hs ws[n] (List.getElem_mem (by omega))
    have ht : ws.take (n + 1) = ws.take n ++ [ws[n]] := List.take_succ_eq_append_getElem (by omega)
    have hj : joinB (ws.take (n + 1)) = joinB (ws.take n) ++ blankB ++ ws[n] := by
      rw [ht]
      obtain ⟨s, l, hsl⟩ : ∃ s l, ws.take n = s :: l := by
        cases hx : ws.take n with
        | nil => have := congrArg List.length hx; rw [List.length_take, List.length_nil] at this; omega
        | cons s l => exact ⟨s, l, rfl⟩
      rw [hsl]
      show joinGo s (l ++ [_]) = _
      rw [joinGo_append]; rfl
    refine Ev.succ ?_
    simp only [spec_l13Greedy.l1, if_pos (show ((n : Int) < (ws.length : Int)) by omega), w64 (show -9223372036854775808 ≤ (n : Int) + 1 by omega) (by omega), if_pos (show (0 : Int) ≤ (n : Int) + 1 by omega), if_pos (show (n : Int) + 1 ≤ (ws.length : Int) by omega), show ((n : Int) + 1).toNat = n + 1 by omega]
    refine Ev.bind (join_ev (ws.take (n + 1)) (by rw [List.length_take]; omega) (fun s h => by have := hs s (List.mem_of_mem_take h); omega)) ?_
    rw [e, greedyGo]
    have hsz : ((joinB (ws.take (n + 1))).size : Int) = (joinB (ws.take n)).size + 1 + ws[n].size := by
      rw [hj, ByteArray.size_append, ByteArray.size_append, blankB_size]; omega
    by_cases hf : ((joinB (ws.take n)).size : Int) + 1 + (ws[n].size : Int) ≤ w
    · simp only [hsz, if_pos hf]
      refine ev_eq (ihd (n + 1) ws out hr hs hl (by omega) (by omega)) ?_
      rw [hj]
    · simp only [hsz, if_neg hf, if_pos (show (0 : Int) ≤ (n : Int) by omega), if_pos (show (n : Int) ≤ (ws.length : Int) by omega), Int.toNat_natCast]
      refine Ev.bind (join_ev (ws.take n) (by rw [List.length_take]; omega) (fun s h => by have := hs s (List.mem_of_mem_take h); omega)) ?_
      simp only [if_pos (show out.length < 8796093022208 by omega)]
      refine ev_eq (ih (ws.drop n) _ (by rw [List.length_drop]; omega) (fun s h => hs s (List.mem_of_mem_drop h)) (by rw [List.length_append, List.length_singleton, List.length_drop]; omega)) ?_
      rw [e, List.append_assoc]; rfl
theorem spec_greedy_all (w : Int) (hw : w ≤ 80) (m : Nat) : ∀ (ws out : List ByteArray), ws.length < m → (∀ s ∈ ws, s.size ≤ 80) → out.length + ws.length ≤ 60 → Ev (fun k => spec_l13Greedy.l0 k ws w out) (out ++ greedyB w ws) := by
  induction m with
  | zero => intro ws out h; omega
  | succ m ih =>
    intro ws out h hs hl
    cases ws with
    | nil =>
      refine Ev.succ ?_
      simp only [spec_l13Greedy.l0, List.length_nil]
      refine ev_eq (Ev.now _) ?_
      simp [greedyB]
    | cons s l =>
      refine Ev.succ ?_
      simp only [spec_l13Greedy.l0, if_pos (show ((s :: l).length : Int) > 0 by rw [List.length_cons]; omega)]
      exact spec_greedy_in w hw (s :: l).length (fun m' out' h' => ih m' out' (by simp at h h'; omega)) l.length 1 (s :: l) out rfl hs hl (by omega) (by rw [List.length_cons]; omega)
theorem spec_greedy_ev (ws : List ByteArray) (w : Int) (hw : w ≤ 80) (hl : ws.length ≤ 60) (hs : ∀ s ∈ ws, s.size ≤ 80) : Ev (fun k => spec_l13Greedy.f k ws w) (greedyB w ws) := by
  unfold spec_l13Greedy.f
  exact ev_eq (spec_greedy_all w hw (ws.length + 1) ws [] (by omega) hs (by simpa using hl)) (by simp)

end Go.Proofs.Ytdniecpijkhpnaa.X
