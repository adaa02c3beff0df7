/- The law FnExactNewServer of the program: its proof, with what it stands on. -/
import Derived.Test.YthcbcggfjjkleaaMFnExactNewServer2
import Derived.Test.YthcbcggfjjkleaaMFnExactNewServer1
import Derived.Test.YthcbcggfjjkleaaRows
import Derived.WalkKit
import Derived.ProofKit
import Derived.OpenShut
import Derived.ShutString
import Derived.ChangeOld
import Derived.Below
import Derived.SizedLaws
/- What a good text is, a good part, a good change; that the program and the reference ask the same of texts and parts. -/
set_option linter.unusedVariables false
set_option linter.unusedSimpArgs false
namespace Go.Proofs.Ythcbcggfjjkleaa.X
open Go.RowKit Go.Proofs.YthcbcggfjjkleaaW.PrintWords Go.Proofs.YthcbcggfjjkleaaW.PrintLast Go.Proofs.YthcbcggfjjkleaaW.PrintMore

def nameB (c : Int) : Bool := decide (65 ≤ c) && decide (c ≤ 70)
/-- A plain byte (a-z, 0-9, blank, '.', ','). -/
def plainB (c : Int) : Bool := (decide (97 ≤ c) && decide (c ≤ 122)) || (decide (48 ≤ c) && decide (c ≤ 57)) || decide (c = 32) || decide (c = 46) || decide (c = 44)
theorem impl_isPlain_val (c : Int) : impl_isPlain.f c = some (plainB c) := by
  unfold impl_isPlain.f plainB
  repeat' split
  all_goals simp only [Option.some.injEq]
  all_goals (first | (simp; omega) | (rw [Bool.eq_iff_iff]; simp; omega) | (rw [eq_comm]; simp; omega))
theorem spec_l1Plain_val (c : Int) : spec_l1Plain.f c = some (plainB c) := by
  unfold spec_l1Plain.f plainB
  repeat' split
  all_goals simp only [Option.some.injEq]
  all_goals (first | (simp; omega) | (rw [Bool.eq_iff_iff]; simp; omega) | (rw [eq_comm]; simp; omega))
theorem impl_isName_val (c : Int) : impl_isName.f c = some (nameB c) := by
  unfold impl_isName.f nameB
  by_cases h : c ≥ 65
  · rw [if_pos h, decide_eq_true (show 65 ≤ c from h)]; simp
  · rw [if_neg h, decide_eq_false (show ¬ 65 ≤ c from h)]; simp
theorem spec_l1Open_val (c : Int) : spec_l1Open.f c = some (nameB c) := by
  unfold spec_l1Open.f nameB
  by_cases h : c ≥ 65
  · rw [if_pos h, decide_eq_true (show 65 ≤ c from h)]; simp
  · rw [if_neg h, decide_eq_false (show ¬ 65 ≤ c from h)]; simp
/-- A byte of a good text. -/
def byteB (c : Int) : Bool := nameB c || plainB c || decide (c = 47)
/-- All bytes are those of a good text. -/
def bytesB (s : ByteArray) : Bool := s.data.toList.all fun c => byteB (c.toNat : Int)
/-- A good text. -/
def textB (s : ByteArray) : Bool := bytesB s && decide (s.size ≤ 300)
theorem bt_get (s : ByteArray) (i : Nat) (h : i < s.data.toList.length) : bt s (i : Int) = ((s.data.toList[i]).toNat : Int) := by
  have h' : i < s.size := by simpa using h
  have := bt_at s (i : Int) (by simpa using h')
  rw [← this]
  simp
  rfl

theorem implText_loop (s : ByteArray) (hs : s.size ≤ 9223372036854775807) (d : Nat) : ∀ i : Nat, i + d = s.size → Ev (fun k => impl_GoodText.l0 k s (s.size : Int) (i : Int)) (((s.data.toList.drop i).all fun c => byteB (c.toNat : Int)) && decide (s.size ≤ 300)) := by
  have hlen : s.data.toList.length = s.size := by simp
  induction d with
  | zero =>
    intro i h
    refine Ev.succ ?_
    simp only [impl_GoodText.l0, if_neg (show ¬ ((i : Int) < (s.size : Int)) by omega)]
    rw [List.drop_eq_nil_of_le (by omega)]
    refine ev_eq (Ev.now _) ?_
    simp only [List.all_nil, Bool.true_and]
    rw [Bool.eq_iff_iff]; simp; omega
  | succ d ih =>
    intro i h
    have e : s.data.toList.drop i = s.data.toList[i] :: s.data.toList.drop (i + 1) := List.drop_eq_getElem_cons (by omega)
    have hb := bt_get s i (by omega)
    refine Ev.succ ?_
    simp only [impl_GoodText.l0, if_pos (show ((i : Int) < (s.size : Int)) by omega), if_pos (show (0 : Int) ≤ i by omega), impl_isName_val, impl_isPlain_val, Option.bind_some, w64 (show -9223372036854775808 ≤ (i : Int) + 1 by omega) (by omega), hb]
    rw [e, List.all_cons]
    generalize ((s.data.toList[i]).toNat : Int) = c
    have hi := ih (i + 1) (by omega)
    unfold byteB
    cases h1 : nameB c with
    | true => simp only [if_true, Bool.true_or, Bool.true_and]; exact hi
    | false =>
      simp only [Bool.false_eq_true, if_false]
      cases h2 : plainB c with
      | true => simp only [if_true, Bool.true_or, Bool.or_true, Bool.true_and]; exact hi
      | false =>
        simp only [Bool.false_eq_true, if_false]
        by_cases h3 : c = 47
        · simp only [if_pos h3, decide_eq_true h3, Bool.or_true, Bool.true_and]; exact hi
        · simp only [if_neg h3]
          refine ev_eq (Ev.now _) ?_
          rw [decide_eq_false h3]; simp
theorem implText_ev (s : ByteArray) (hs : s.size ≤ maxLen) : Ev (fun k => impl_GoodText.f k s) (textB s) := by
  have := implText_loop s (by simpa [maxLen] using hs) s.size 0 (by omega)
  simpa [impl_GoodText.f, textB, bytesB] using this

theorem specText_loop (s : ByteArray) (hs : s.size ≤ 9223372036854775807) (d : Nat) : ∀ i : Nat, i + d = s.size → Ev (fun k => spec_l1Text.l0 k s (i : Int)) ((s.data.toList.drop i).all fun c => byteB (c.toNat : Int)) := by
  have hlen : s.data.toList.length = s.size := by simp
  induction d with
  | zero =>
    intro i h
    refine Ev.succ ?_
    simp only [spec_l1Text.l0, if_neg (show ¬ ((i : Int) < (s.size : Int)) by omega)]
    rw [List.drop_eq_nil_of_le (by omega)]
    exact Ev.now _
  | succ d ih =>
    intro i h
    have e : s.data.toList.drop i = s.data.toList[i] :: s.data.toList.drop (i + 1) := List.drop_eq_getElem_cons (by omega)
    have hb := bt_get s i (by omega)
    refine Ev.succ ?_
    simp only [spec_l1Text.l0, if_pos (show ((i : Int) < (s.size : Int)) by omega), if_pos (show (0 : Int) ≤ i by omega), spec_l1Open_val, spec_l1Plain_val, Option.bind_some, w64 (show -9223372036854775808 ≤ (i : Int) + 1 by omega) (by omega), hb]
    rw [e, List.all_cons]
    generalize ((s.data.toList[i]).toNat : Int) = c
    have hi := ih (i + 1) (by omega)
    unfold byteB
    cases h1 : nameB c with
    | true => simp only [if_true, Bool.true_or, Bool.true_and]; exact hi
    | false =>
      simp only [Bool.false_eq_true, if_false]
      cases h2 : plainB c with
      | true => simp only [if_true, Bool.true_or, Bool.or_true, Bool.true_and]; exact hi
      | false =>
        simp only [Bool.false_eq_true, if_false]
        by_cases h3 : c = 47
        · simp only [if_pos h3, decide_eq_true h3, Bool.or_true, Bool.true_and]; exact hi
        · simp only [if_neg h3]
          refine ev_eq (Ev.now _) ?_
          rw [decide_eq_false h3]; simp
theorem specBytes_ev (s : ByteArray) (hs : s.size ≤ maxLen) : Ev (fun k => spec_l1Text.f k s) (bytesB s) := by
  have := specText_loop s (by simpa [maxLen] using hs) s.size 0 (by omega)
  simpa [spec_l1Text.f, bytesB] using this
theorem specText_ev (s : ByteArray) (hs : s.size ≤ maxLen) : Ev (fun k => spec_GoodText.f k s) (textB s) := by
  unfold spec_GoodText.f textB
  refine Ev.bind (specBytes_ev s hs) ?_
  cases h : bytesB s with
  | true =>
    simp only [if_true, Bool.true_and]
    refine ev_eq (Ev.now _) ?_
    rw [Bool.eq_iff_iff]; simp; omega
  | false => simp only [Bool.false_eq_true, if_false, Bool.false_and]; exact Ev.now _
theorem toList_nil (s : ByteArray) : (s.toList = ([] : List UInt8)) ↔ s.size = 0 := by
  rw [ByteArray.toList_eq]
  constructor
  · intro h
    have := congrArg List.length h
    simpa using this
  · intro h
    exact List.eq_nil_of_length_eq_zero (by simpa using h)

end Go.Proofs.Ythcbcggfjjkleaa.X
/- The program's NewServer returns what the reference's NewServer returns, at every text; its answer is new memory. -/
set_option linter.unusedVariables false
set_option linter.unusedSimpArgs false
namespace Go.Proofs.Ythcbcggfjjkleaa.Pure
open Go.RowKit Go.Proofs.Ythcbcggfjjkleaa.X Go.Proofs.YthcbcggfjjkleaaW.PrintWords Go.Proofs.YthcbcggfjjkleaaW.PrintLast

abbrev Entry := S59
def newV (a : ByteArray) : ByteArray := if textB a = true then a else ⟨#[]⟩
theorem spec_NewServer_ev (a : ByteArray) (h : a.size ≤ maxLen) : Ev (fun k => spec_NewServer.f k a) (newV a, newV a, ([] : List Entry), textB a) := by
  unfold spec_NewServer.f newV
  refine Ev.bind (specText_ev a h) ?_
  cases textB a with
  | false => simp only [Bool.false_eq_true, if_false]; exact Ev.now _
  | true => simp only [if_true]; exact Ev.now _
theorem impl_NewServer_ev (a : ByteArray) (h : a.size ≤ maxLen) : Ev (fun k => impl_NewServer.f k a) (newV a, newV a, ([] : List Entry), textB a) := by
  unfold impl_NewServer.f newV
  refine Ev.bind (implText_ev a h) ?_
  cases textB a with
  | false => simp only [Bool.false_eq_true, if_false]; exact Ev.now _
  | true => simp only [if_true]; exact Ev.now _
theorem eqServer_nil (a t : ByteArray) : Ev (fun k => laws_eqServer.f k a t [] a t []) true := by
  unfold laws_eqServer.f
  simp only [if_true]
  have h : Ev (fun k => laws_eqEntryS.f k [] []) true := by
    unfold laws_eqEntryS.f
    simp only [if_true]
    refine Ev.succ ?_
    simp only [laws_eqEntryS.l0, List.length_nil]
    exact Ev.now _
  refine Ev.bind h ?_
  simp only [if_true]
  exact Ev.now _
theorem heldEntryS_nil (q : Int) : Ev (fun k => laws_heldEntryS.f k [] q) q := by
  unfold laws_heldEntryS.f
  refine Ev.succ ?_
  simp only [laws_heldEntryS.l0, List.length_nil]
  exact Ev.now _
theorem heldServer_nil (a t : ByteArray) : Ev (fun k => laws_heldServer.f k a t [] 1) 1 := by
  unfold laws_heldServer.f
  refine Ev.bind (heldEntryS_nil 1) ?_
  exact Ev.now _

theorem FnExactNewServer : PureFnExactNewServer := by
  intro a ha
  refine Ev.rounds ?_
  unfold laws_FnExactNewServer.f
  by_cases hs : (a.size : Int) > 1048576
  · simp only [if_pos hs]; exact Ev.now _
  · simp only [if_neg hs]
    have hsp := spec_NewServer_ev a ha
    have him := impl_NewServer_ev a ha
    have heq := eqServer_nil (newV a) (newV a)
    have hheld := heldServer_nil (newV a) (newV a)
    refine Ev.bind hsp ?_
    refine Ev.bind him ?_
    refine Ev.bind heq ?_
    simp only [if_true, bne_self_eq_false]
    refine Ev.succ ?_
    simp only [laws_FnExactNewServer.j0, Bool.false_eq_true, if_false, laws_markServer.f, laws_markEntryS.f, List.length_nil, if_true, Option.bind_some]
    refine Ev.bind hheld ?_
    simp only [if_neg (show ¬ ((1 : Int) < 0) by omega), if_true]
    refine Ev.bind him ?_
    refine Ev.bind heq ?_
    simp only [if_true, bne_self_eq_false]
    refine Ev.succ ?_
    simp only [laws_FnExactNewServer.j1, Bool.false_eq_true, if_false]
    refine Ev.bind hheld ?_
    simp only [if_neg (show ¬ ((1 : Int) < 0) by omega), if_true]
    exact Ev.now _

end Go.Proofs.Ythcbcggfjjkleaa.Pure
-- Written for this seat by wip/tools/xprint.py of this repo.
namespace Go.Proofs.Ythcbcggfjjkleaa.fnExactNewServer
open Go.ChangeShapes Go.WideShapes Go.ChangeAt Go.RowKit
open Go.ChangeMaps (open_string shut_string)
open Go.Proofs.YthcbcggfjjkleaaW.PrintWords Go.Proofs.Ythcbcggfjjkleaa.X
set_option linter.unusedVariables false
theorem own : ownKnob Try.prog.godebug = none := by kernel_rfl
theorem laidOut : laidOutB Try.prog = true := by kernel_rfl
set_option maxRecDepth 100000 in
theorem lifted (os : Os) (started : os.Started) (H : Type) (enc : TypeId × Value → H) :
    ReturnsInHanded {} Try.checked os 3 .any (Rows.fnExactNewServerSpec.pre6 enc Try.prog Try.f3 Rows.fnExactNewServerRow.domain false) (Rows.fnExactNewServerSpec.post enc Try.prog Try.f3 false true false false) := by
  refine returnsInHanded_of_change_sized (C := Try.checked) own started (by kernel_rfl) Try.func3
    (ChangeSpec.witness6 (enc := enc) (C := Try.checked) false ⟨#[], #[.string ByteArray.empty], []⟩ 8 (by kernel_rfl) (by kernel_rfl) (by kernel_rfl) (by kernel_rfl)) ?_
  intro W base args ds gs before hval0 hW hcnd hsz0 _
  have hval : ∀ (j : Nat) t v, Try.f3.params[j]? = some t → args[j]? = some v → Value.okWide Try.prog W .any base t v := hval0
  have hW' := hW
  obtain ⟨p, q, hA0, hV, rfl, hfz, hnd⟩ := hW
  have hA : DataW.TrodAll enc Try.prog W 0 (fun _ => true) true Try.f3.params.toList args.toList ds p := hA0
  rw [Try.params3] at hA hval
  obtain ⟨v0, vs0, d0, ds0, p0, q0, hargs, rfl, rfl, h0, r0⟩ := trodAll_cons hA
  obtain ⟨rfl, rfl, rfl⟩ := trodAll_nil r0
  obtain rfl : args = #[v0] := by cases args; simp_all
  obtain ⟨rfl, rfl⟩ := trodVars_none hV
  obtain ⟨a0, rfl, rfl, rfl, w0⟩ := open_string Try.underlying9 (hval 0 9 v0 rfl rfl) h0
  clear hA0 hval0 hsz0
  have hP : PureFnExactNewServer := Pure.FnExactNewServer
  obtain ⟨k, hk⟩ := hP a0 w0
  refine (laws_FnExactNewServer.calls k a0 true W  hk).mono fun e W' ⟨he, bel0⟩ => ?_
  have bel : Below W.heap.size W W' := bel0
  subst he
  exact ⟨_, rfl, _, _, _, [], _, [], hW', trodAll_mk1 (shut_bool Try.underlying4 _), (trodAll_cons_mk (shut_string Try.underlying9 w0) trodAll_mk0), rfl, bel.frame _, fun h => by cases h⟩
theorem over : Rows.fnExactNewServerRow.holds Try.pinned (OpenSpec.ofChange Rows.fnExactNewServerSpec) :=
  OpenClaim.holds_of_wide 3 Try.f3 rfl rfl rfl rfl rfl rfl rfl ⟨rfl, rfl, rfl, rfl, rfl⟩ rfl rfl rfl rfl rfl (by kernel_rfl) Try.func3 (by kernel_rfl)
    (of_decide_eq_true (by kernel_rfl)) (by unfold Func.isWrapper; first | (rw [if_pos (by decide +kernel)]; kernel_rfl) | (rw [if_neg (by decide +kernel)]; exact ⟨rfl, rfl⟩))
    (fun os started H enc _ => lifted os started H enc)
theorem proved : Rows.FnExactNewServerSaid := over
#print axioms proved
end Go.Proofs.Ythcbcggfjjkleaa.fnExactNewServer
namespace Go.Proofs.Ythcbcggfjjkleaa
/-- The row, under a short name, for the claim. -/
theorem fnExactNewServer_holds : Rows.FnExactNewServerSaid := fnExactNewServer.proved
end Go.Proofs.Ythcbcggfjjkleaa
