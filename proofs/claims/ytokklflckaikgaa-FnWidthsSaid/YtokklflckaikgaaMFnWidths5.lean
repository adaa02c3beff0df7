/- The law FnWidths of the program: its proof, part 5. -/
import Derived.Test.YtokklflckaikgaaMFnWidths4
import Derived.Test.YtokklflckaikgaaMFnWidths2
import Derived.Test.YtokklflckaikgaaRows
import Derived.WalkKit
import Derived.ProofKit
import Derived.OpenShut
import Derived.ShutString
import Derived.ChangeOld
import Derived.Below
import Derived.SizedLaws
set_option linter.unusedVariables false
set_option linter.unusedSimpArgs false
namespace Go.Proofs.Ytokklflckaikgaa.Pure
open Go.RowKit Go.Proofs.Ytokklflckaikgaa.X Go.Proofs.YtokklflckaikgaaW.PrintWords Go.Proofs.YtokklflckaikgaaW.PrintLast
section
variable (more : List Int) (ws l : List ByteArray) (v : Bool)
theorem wl0_loop (hl : l.length ≤ 1000000) (hs : ∀ s ∈ l, s.size ≤ 1048576) (d : Nat) : ∀ (i : Nat) (acc : ByteArray), 0 < i → i + d = l.length → acc.size ≤ i * 1048577 →
    Ev (fun k => laws_FnWidths.l0 k more ws (joinGo acc (l.drop i)) l (l.length : Int) (l.length : Int)) v → Ev (fun k => laws_FnWidths.l0 k more ws acc l (l.length : Int) (i : Int)) v := by
  induction d with
  | zero =>
    intro i acc h0 h ha hf
    rw [List.drop_eq_nil_of_le (by omega)] at hf
    rwa [show (l.length : Int) = (i : Int) by omega] at hf ⊢
  | succ d ih =>
    intro i acc h0 h ha hf
    have e : l.drop i = l[i] :: l.drop (i + 1) := List.drop_eq_getElem_cons (by omega)
    have hz := hs l[i] (List.getElem_mem (by omega))
    refine Ev.succ ?_
    simp only [laws_FnWidths.l0, if_pos (show ((i : Int) < (l.length : Int)) by omega), if_pos (show (0 : Int) ≤ i by omega), if_pos (show (i : Int) > 0 by omega), rdOf_get _ l i (by omega), w64 (show -9223372036854775808 ≤ (i : Int) + 1 by omega) (by omega), if_pos (show acc.size + 1 ≤ 9223372036854775807 by omega)]
    simp only [if_pos (show (acc ++ (⟨#[32]⟩ : ByteArray)).size + l[i].size ≤ 9223372036854775807 by rw [ByteArray.size_append]; show acc.size + 1 + _ ≤ _; omega)]
    rw [e, joinGo] at hf
    refine ih (i + 1) _ (by omega) (by omega) ?_ hf
    rw [ByteArray.size_append, ByteArray.size_append]
    show acc.size + 1 + _ ≤ _
    omega
theorem wl0_ev (hl : l.length ≤ 1000000) (hs : ∀ s ∈ l, s.size ≤ 1048576) (hf : Ev (fun k => laws_FnWidths.l0 k more ws (joinB l) l (l.length : Int) (l.length : Int)) v) :
    Ev (fun k => laws_FnWidths.l0 k more ws (⟨#[]⟩ : ByteArray) l (l.length : Int) 0) v := by
  cases l with
  | nil => exact hf
  | cons s r =>
    have hz := hs s (List.mem_cons_self ..)
    refine Ev.succ ?_
    have e0 : rdOf ByteArray.empty (s :: r) 0 = s := rfl
    simp only [laws_FnWidths.l0, if_pos (show (0 : Int) < ((s :: r).length : Int) by rw [List.length_cons]; omega), if_pos (show (0 : Int) ≤ 0 by omega), if_neg (show ¬ (0 : Int) > 0 by omega), e0, w64 (show -9223372036854775808 ≤ (0 : Int) + 1 by omega) (by omega)]
    have z0 : (⟨#[]⟩ : ByteArray).size = 0 := rfl
    have z1 : (⟨#[]⟩ : ByteArray) ++ s = s := ByteArray.empty_append
    simp only [z0, if_pos (show 0 + s.size ≤ 9223372036854775807 by omega), z1]
    exact wl0_loop more ws (s :: r) v hl hs r.length 1 s (by omega) (by rw [List.length_cons]; omega) (by omega) hf
end
theorem j5_ev (more : List Int) (hom : okCode more) : Ev (fun k => laws_FnWidths.j5 k more) true := by
  obtain ⟨t, hd, ht⟩ := drawWordsOf_ok more hom
  have hts : t.size ≤ maxLen := by unfold maxLen; omega
  have him : impl_WordsOf.f t = some (wordsOfB t) := if_pos hts
  have hsp := spec_WordsOf_ev t hts
  have hlen := wordsOfB_length t
  generalize wordsOfB t = o at him hsp hlen
  obtain ⟨o1, o2⟩ := o
  simp only at hlen
  refine Ev.succ ?_
  simp only [laws_FnWidths.j5]
  refine Ev.bind hd ?_
  simp only [him, Option.bind_some]
  refine Ev.bind hsp ?_
  simp only [beq_self_eq_true, if_true]
  refine Ev.bind (sameTexts_ev o1 (by omega)) ?_
  exact Ev.now _
theorem joinB_size0 (l : List ByteArray) (hl : l.length ≤ 60) (hs : ∀ s ∈ l, s.size ≤ 80) : (joinB l).size ≤ 4940 := by
  cases l with
  | nil => decide
  | cons s l =>
    have h1 := sum_bd l 80 (fun t h => hs t (List.mem_cons_of_mem _ h))
    have h2 := hs s (List.mem_cons_self ..)
    rw [joinB, joinGo_size]
    simp only [List.length_cons] at hl
    omega

theorem FnWidths : PureFnWidths := by
  intro code more ⟨hcl, hcw⟩ ⟨hml, hmw⟩
  refine Ev.rounds ?_
  unfold laws_FnWidths.f
  by_cases hc : wrap64 ((code.length : Int) + (more.length : Int)) > 1048576
  · simp only [if_pos hc]; exact Ev.now _
  simp only [if_neg hc]
  have hoc := okCode_of hcw
  have hom := okCode_of hmw
  have h5 := j5_ev more hom
  obtain ⟨ws, n, hd, hwl, hws⟩ := drawLeast_ok code hoc
  have hs : ∀ s ∈ ws, s.size ≤ maxLen := fun s h => by have := hws s h; unfold maxLen; omega
  obtain ⟨r, hr1, hr2, hP⟩ := least_ev ws n (by unfold maxLen; omega) hs
  obtain ⟨w, ok⟩ := r
  refine Ev.bind hd ?_
  refine Ev.bind hr2 ?_
  refine Ev.bind hr1 ?_
  simp only [bne_self_eq_false, Bool.false_eq_true, if_false]
  refine Ev.succ ?_
  simp only [laws_FnWidths.j0, Bool.false_eq_true, if_false]
  cases ok with
  | false =>
    simp only [Bool.false_eq_true, if_false]
    refine Ev.succ ?_
    simp only [laws_FnWidths.j1, Bool.false_eq_true, if_false]
    exact h5
  | true =>
    simp only [if_true]
    refine Ev.succ ?_
    simp only [laws_FnWidths.j1]
    by_cases h0 : (ws.length : Int) > 0
    · have hne : ws ≠ [] := fun e => by rw [e] at h0; simp at h0
      obtain ⟨q1, q2, q3, q4, q5⟩ := hP hne rfl
      simp only at q1 q2 q3 q4 q5
      simp only [decide_eq_true h0, if_true]
      obtain ⟨h60, hsz, hW1, hW80, hwd⟩ := saidB_of q3
      have hge := impl_GreedyLines_ev ws w hs
      have hgo : greedyOf ws w = (greedyB w ws, true) := by simp [greedyOf, q3]
      rw [hgo] at hge
      have hgb := greedyB_br w ws (fun s h => (hsz s h).2.2)
      have hgs := hgb.sizes (fun s h => (hsz s h).1)
      have hgl := hgb.length
      refine Ev.bind hge ?_
      simp only [if_true]
      rw [decide_eq_false (show ¬ ((greedyB w ws).length : Int) > n by omega)]
      refine Ev.succ ?_
      simp only [laws_FnWidths.j2, Bool.false_eq_true, if_false, w64 (show -9223372036854775808 ≤ w - 1 by omega) (by omega)]
      refine Ev.bind (impl_GreedyLines_ev ws (w - 1) hs) ?_
      have hj3 : Ev (fun k => laws_FnWidths.j3 k more ws (greedyB w ws) false) true := by
        refine Ev.succ ?_
        simp only [laws_FnWidths.j3, Bool.false_eq_true, if_false]
        refine wl0_ev more ws (greedyB w ws) true (by omega) (fun s h => by have := hgs s h; omega) ?_
        refine Ev.succ ?_
        simp only [laws_FnWidths.l0, if_neg (show ¬ ((greedyB w ws).length : Int) < ((greedyB w ws).length : Int) by omega)]
        rw [hgb.join]
        have hjs := joinB_size0 ws h60 (fun s h => (hsz s h).2.1)
        have hjm : (joinB ws).size ≤ maxLen := by unfold maxLen; omega
        have him : impl_WordsOf.f (joinB ws) = some (wordsOfB (joinB ws)) := if_pos hjm
        simp only [him, Option.bind_some]
        refine Ev.bind (specGoodText_ev (joinB ws) hjm) ?_
        cases ht : textB (joinB ws) with
        | false => simp only [Bool.false_eq_true, if_false]; exact h5
        | true =>
          simp only [if_true, wordsOf_back ws h60 hwd ht]
          refine Ev.bind (sameTexts_ev ws (by omega)) ?_
          simp only [if_true]
          exact h5
      cases hsd : saidB ws (w - 1) with
      | false =>
        have hg2 : greedyOf ws (w - 1) = ([], false) := by simp [greedyOf, hsd]
        rw [hg2]
        simp only [Bool.false_eq_true, if_false]
        exact hj3
      | true =>
        have hg2 : greedyOf ws (w - 1) = (greedyB (w - 1) ws, true) := by simp [greedyOf, hsd]
        have hw1 := (saidB_of hsd).2.2.1
        have hno := q5 (by omega) hsd
        rw [hg2]
        simp only [if_true]
        rw [decide_eq_false hno]
        exact hj3
    · simp only [decide_eq_false h0, Bool.false_eq_true, if_false]
      exact h5
end Go.Proofs.Ytokklflckaikgaa.Pure
namespace Go.Proofs.Ytokklflckaikgaa.fnWidths
open Go.ChangeShapes Go.WideShapes Go.ChangeAt Go.RowKit
open Go.ChangeMaps (open_string shut_string)
open Go.Proofs.YtokklflckaikgaaW.PrintWords Go.Proofs.Ytokklflckaikgaa.X
set_option linter.unusedVariables false
theorem own : ownKnob Try.prog.godebug = none := by kernel_rfl
theorem laidOut : laidOutB Try.prog = true := by kernel_rfl
set_option maxRecDepth 100000 in
theorem lifted (os : Os) (started : os.Started) (H : Type) (enc : TypeId × Value → H) :
    ReturnsInHanded {} Try.checked os 4 .any (Rows.fnWidthsSpec.pre6 enc Try.prog Try.f4 Rows.fnWidthsRow.domain false) (Rows.fnWidthsSpec.post enc Try.prog Try.f4 false true false false) := by
  refine returnsInHanded_of_change_sized (C := Try.checked) own started (by kernel_rfl) Try.func4
    (ChangeSpec.witness6 (enc := enc) (C := Try.checked) false ⟨#[], #[.slice none 0 0, .slice none 0 0], []⟩ 8 (by kernel_rfl) (by kernel_rfl) (by kernel_rfl) (by kernel_rfl)) ?_
  intro W base args ds gs before hval0 hW hcnd hsz0 _
  have hval : ∀ (j : Nat) t v, Try.f4.params[j]? = some t → args[j]? = some v → Value.okWide Try.prog W .any base t v := hval0
  have hW' := hW
  obtain ⟨p, q, hA0, hV, rfl, hfz, hnd⟩ := hW
  have hA : DataW.TrodAll enc Try.prog W 0 (fun _ => true) true Try.f4.params.toList args.toList ds p := hA0
  rw [Try.params4] at hA hval
  obtain ⟨v0, vs0, d0, ds0, p0, q0, hargs, rfl, rfl, h0, r0⟩ := trodAll_cons hA
  obtain ⟨v1, vs1, d1, ds1, p1, q1, rfl, rfl, rfl, h1, r1⟩ := trodAll_cons r0
  obtain ⟨rfl, rfl, rfl⟩ := trodAll_nil r1
  obtain rfl : args = #[v0, v1] := by cases args; simp_all
  obtain ⟨rfl, rfl⟩ := trodVars_none hV
  have k0 := h0
  have lt0 : ∀ x ∈ p0, x.block < W.heap.size := by obtain ⟨m, hm⟩ := k0; exact DataW.trod_lt m _ _ _ hm
  obtain ⟨fuel0, hf0⟩ := h0
  obtain ⟨A0_, len0, cap0, rfl⟩ := okWide_slice Try.underlying22 (hval 0 22 v0 rfl rfl)
  obtain ⟨l0, ⟨A0, c0, he0, hc0, hr0⟩, b0⟩ := (opens_slice Try.underlying22 (by kernel_rfl) (opens_int Try.underlying5)) H enc W _ _ _ hf0
  simp only [Value.cells, List.cons.injEq, Value.slice.injEq, and_true] at he0
  obtain ⟨rfl, rfl, rfl⟩ := he0
  have k1 := h1
  have lt1 : ∀ x ∈ p1, x.block < W.heap.size := by obtain ⟨m, hm⟩ := k1; exact DataW.trod_lt m _ _ _ hm
  obtain ⟨fuel1, hf1⟩ := h1
  obtain ⟨A1_, len1, cap1, rfl⟩ := okWide_slice Try.underlying22 (hval 1 22 v1 rfl rfl)
  obtain ⟨l1, ⟨A1, c1, he1, hc1, hr1⟩, b1⟩ := (opens_slice Try.underlying22 (by kernel_rfl) (opens_int Try.underlying5)) H enc W _ _ _ hf1
  simp only [Value.cells, List.cons.injEq, Value.slice.injEq, and_true] at he1
  obtain ⟨rfl, rfl, rfl⟩ := he1
  clear hA0 hval0 hsz0
  have hP : PureFnWidths := Pure.FnWidths
  obtain ⟨k, hk⟩ := hP l0 l1 b0 b1
  refine (laws_FnWidths.calls k _ _ l0 _ _ l1 true W hr0 hc0 hr1 hc1 hk).mono fun e W' ⟨he, bel0⟩ => ?_
  have bel : Below W.heap.size W W' := bel0
  subst he
  exact ⟨_, rfl, _, _, _, [], _, [], hW', trodAll_mk1 (shut_bool Try.underlying4 _), (trodAll_cons_mk (Below.trod laidOut (by kernel_rfl) (of_decide_eq_true (by kernel_rfl)) k0 bel lt0) (trodAll_cons_mk (Below.trod laidOut (by kernel_rfl) (of_decide_eq_true (by kernel_rfl)) k1 bel lt1) trodAll_mk0)), rfl, bel.frame _, fun h => by cases h⟩
theorem over : Rows.fnWidthsRow.holds Try.pinned (OpenSpec.ofChange Rows.fnWidthsSpec) :=
  OpenClaim.holds_of_wide 4 Try.f4 rfl rfl rfl rfl rfl rfl rfl ⟨rfl, rfl, rfl, rfl, rfl⟩ rfl rfl rfl rfl rfl (by kernel_rfl) Try.func4 (by kernel_rfl)
    (of_decide_eq_true (by kernel_rfl)) (by unfold Func.isWrapper; first | (rw [if_pos (by decide +kernel)]; kernel_rfl) | (rw [if_neg (by decide +kernel)]; exact ⟨rfl, rfl⟩))
    (fun os started H enc _ => lifted os started H enc)
theorem proved : Rows.FnWidthsSaid := over
#print axioms proved
end Go.Proofs.Ytokklflckaikgaa.fnWidths
namespace Go.Proofs.Ytokklflckaikgaa
theorem fnWidths_holds : Rows.FnWidthsSaid := fnWidths.proved
end Go.Proofs.Ytokklflckaikgaa
