/- The law FnExactPutAtom of the program: its proof, part 5. -/
import Derived.Test.YtejilfaioooabaaMFnExactPutAtom4
import Derived.Test.YtejilfaioooabaaMFnExactPutAtom2
set_option linter.unusedVariables false
set_option linter.unusedSimpArgs false
namespace Go.Proofs.Ytejilfaioooabaa.X
open Go.RowKit Go.Proofs.YtejilfaioooabaaW.PrintWords Go.Proofs.YtejilfaioooabaaW.PrintLast Go.Proofs.YtejilfaioooabaaW.PrintMore
theorem below_drawn0 {w w' : World} (h : Drawn0 w w') : Below w.heap.size w w' := by
  obtain ⟨n, rfl⟩ := h
  exact pw_below_drewN (Below.refl _ _) n
def newA (l : List Atom) (actor a : Int) (b : ByteArray) : Atom :=
  ⟨if 0 < l.length then (rd_T41 l ((l.length : Int) - 1)).f0 + 1 else 1, actor, if 0 < a then (rd_T41 l (rd (shownL l) (a - 1))).f0 else 0, if 0 < a then (rd_T41 l (rd (shownL l) (a - 1))).f1 else 0, b, false⟩
def putV (l : List Atom) (actor a : Int) (b : ByteArray) : List Atom × Bool :=
  if goodS l = true ∧ 0 ≤ actor ∧ actor ≤ 9 ∧ oneB b = true ∧ 0 ≤ a ∧ a ≤ ((shownL l).length : Int) ∧ goodS (l ++ [newA l actor a b]) = true then (l ++ [newA l actor a b], true) else ([], false)
def impl_PutAtom.f (l0_0 : List (S41)) (a1 : Int) (a2 : Int) (a3 : ByteArray) : Option ((List (S41)) × Bool) := if sizedA l0_0 = true ∧ a3.size ≤ maxLen then some (putV l0_0 a1 a2 a3) else none

theorem wf_small {x : Int} (h0 : 0 ≤ x) (h1 : x ≤ 100000) : (Lit.int .i64 x).wf = true := by
  have e1 : IntKind.i64.min = -9223372036854775808 := by decide
  have e2 : IntKind.i64.max = 9223372036854775807 := by decide
  simp only [Lit.wf, e1, e2, Bool.and_eq_true, decide_eq_true_eq]
  omega
theorem R_of_flat_ok {w' : World} {base : Nat} {v : Value} {l : List Atom} (ok : Nat → Prop) (hok : ∀ k, v.ownBlock = some k → ok k) (h : w'.ownsRow base 41 6 v l.length (l.flatMap cellsA)) : Kd.R k41 41 w' base ok v l :=
  ⟨hok, _, h, by rw [flat_length cellsA 6 cellsA_len]; rfl, fun j p hj => by
    have hsz : k41.sz = 6 := rfl
    rw [hsz, flat_chunk cellsA 6 cellsA_len l j p hj]
    exact k41_mkM _ _ _ p⟩
theorem put_res {l : List Atom} {a1 a2 : Int} {b : ByteArray} {y : Atom} {r1 : List Atom} {r2 : Bool} (hs : sizedA l = true) (hg : goodS l = true) (h1 : 0 ≤ a1) (h2 : a1 ≤ 9) (hb : oneB b = true) (h3 : 0 ≤ a2) (h4 : a2 ≤ ((shownL l).length : Int)) (hy : newA l a1 a2 b = y)
    (hw : (Lit.int .i64 y.f0).wf = true ∧ (Lit.int .i64 y.f1).wf = true ∧ (Lit.int .i64 y.f2).wf = true ∧ (Lit.int .i64 y.f3).wf = true ∧ y.f4.size ≤ maxLen) (h : putV l a1 a2 b = (r1, r2)) : impl_goodSeq.f (l ++ [y]) = some (r1, r2) := by
  have hs2 : sizedA (l ++ [y]) = true := by
    unfold sizedA at hs ⊢
    rw [List.all_append, hs]
    simp [hw.1, hw.2.1, hw.2.2.1, hw.2.2.2.1, hw.2.2.2.2]
  unfold impl_goodSeq.f
  rw [implGoodSeq_val _ hs2, Option.bind_some, ← h]
  unfold putV
  rw [hy]
  cases c : goodS (l ++ [y]) with
  | true => rw [if_pos rfl, if_pos ⟨hg, h1, h2, hb, h3, h4, rfl⟩]
  | false => rw [if_neg (by simp), if_neg (by rintro ⟨_, _, _, _, _, _, q⟩; cases q)]
set_option maxHeartbeats 16000000 in
set_option maxRecDepth 100000 in
theorem impl_PutAtom.calls (A0_0 : Option Addr) (c0_0 : Nat) (l0_0 : List (S41)) (a1 : Int) (a2 : Int) (a3 : ByteArray) (r1 : List (S41)) (r2 : Bool) (w : World) (hr0_0 : Kd.C k41 w A0_0 l0_0.length l0_0) (hc0_0 : l0_0.length ≤ c0_0) (h : impl_PutAtom.f l0_0 a1 a2 a3 = some (r1, r2)) :
    Calls Try.prog 7 #[.agg #[.slice A0_0 l0_0.length c0_0], .int .i64 a1, .int .i64 a2, .string a3] w fun e w' => ∃ v0_ : Value, e = .returned (.tuple #[.agg #[v0_], .bool r2]) ∧ Kd.R k41 41 w' w.heap.size (fun _ => True) v0_ r1 ∧ Below w.heap.size w w' := by
  unfold impl_PutAtom.f at h
  by_cases hs : sizedA l0_0 = true ∧ a3.size ≤ maxLen
  case neg => rw [if_neg hs] at h; exact absurd h (by simp)
  rw [if_pos hs] at h
  obtain ⟨hs, hsb⟩ := hs
  have HR := mz hr0_0
  have HC := mz hc0_0
  have HSZ := mz hs
  have hsz3 := mz hsb
  have hg := implGoodSeq_val l0_0 hs
  have h0 := Option.some.inj h
  obtain ⟨kb, hkb⟩ := Ev.rounds (isByte_ev a3 hsb)
  clear hr0_0 hc0_0 h hs hsb
  cases p : goodS l0_0 with
  | false =>
    have hv : putV l0_0 a1 a2 a3 = ([], false) := by
      unfold putV
      rw [if_neg (by rintro ⟨q1, q2, q3, q4, q5, q6, q7⟩; rw [p] at q1; cases q1)]
    rw [hv] at h0
    obtain ⟨rfl, rfl⟩ := Prod.mk.inj h0
    rw [p] at hg
    have HG := mz hg
    clear hg hv p h0 hkb
    go_enter Try.func7, Try.ntmps7
    go_wp2_with (first | ((with_reducible refine gate_dst (N := 4) rfl ?_); refine box_event ?hg (N := 4) ?hd (cs := #[.slice A0_0 l0_0.length c0_0]) (t := 28) ?hr ?_; (case hd => rfl); (case hg => rfl); (case hr => first | (go_simp; done) | (go_simp; rfl)); intro g1 hg w3 hbox hb; have HB1 : Aside0 (Below w.heap.size w w3) := ⟨hb⟩; have BK1 := mz hbox; have G1 := mz hg; have x1 : w3.cell? ⟨g1, 0, none⟩ = some (.slice A0_0 l0_0.length c0_0) := (blk_cell hbox 0).trans rfl; clear hb hbox hg) | ((with_reducible refine gate_dst (N := 8) rfl ?_); refine box_event ?hg (N := 8) ?hd (cs := #[.slice none 0 0]) (t := 28) ?hr ?_; (case hd => rfl); (case hg => rfl); (case hr => first | (go_simp; done) | (go_simp; rfl)); intro g8 hg w4 hbox hb; have HB2 := mz (below_step HB1.out hb); have BK2 := mz (blk_below BK1.out hb); have RK2 := mz hbox; have NE := mz (show g1 ≠ g8 by rw [hg]; exact Nat.ne_of_lt (Array.getElem?_eq_some_iff.1 BK1.out).1); have G4 := mz hg; have x2 : w4.cell? ⟨g1, 0, none⟩ = some (.slice A0_0 l0_0.length c0_0) := (blk_cell BK2.out 0).trans rfl; clear hb hbox hg x1) | (go_at_call 16; (with_reducible refine (impl_GoodSeq.calls A0_0 c0_0 l0_0 false _ (Kd.C_below HR.out HB2.out) HC.out HG.out).mono ?_); rintro e w5 ⟨rfl, hb5⟩; have HB3 := mz (below_step HB2.out hb5); have BK3 := mz (blk_below BK2.out hb5); have RK3 := mz (blk_below RK2.out hb5); have y3 : w5.cell? ⟨g8, 0, none⟩ = some (.slice none 0 0) := (blk_cell RK3.out 0).trans rfl; have z3 := blk_frozen RK3.out 0; clear hb5))
    refine bodyPost_ret (results_ct rfl _ _ g8 28 #[.slice none 0 0] (0, 0) _ rfl (blk_put (cs := #[.slice none 0 0]) RK3.out 0 _ rfl) Try.underlying28 rfl (by kernel_rfl)) rfl ?_
    exact ⟨.slice none 0 0, rfl, Kd.R_nil _ _ _ _ _, below_set HB3.out (by have h1 := G4.out; have h2 := HB1.out.size; show w.heap.size ≤ g8; omega)⟩
  | true =>
    rw [p] at hg
    have HG := mz hg
    have HT := mz (tree_of_good p).1
    have HKB0 := mz hkb
    clear hg hkb
    by_cases n1 : a1 < 0
    · have hv : putV l0_0 a1 a2 a3 = ([], false) := by
        unfold putV
        rw [if_neg (by rintro ⟨q1, q2, q3, q4, q5, q6, q7⟩; omega)]
      rw [hv] at h0
      obtain ⟨rfl, rfl⟩ := Prod.mk.inj h0
      clear hv p h0
      go_enter Try.func7, Try.ntmps7
      go_wp2_with (first | ((with_reducible refine gate_dst (N := 4) rfl ?_); refine box_event ?hg (N := 4) ?hd (cs := #[.slice A0_0 l0_0.length c0_0]) (t := 28) ?hr ?_; (case hd => rfl); (case hg => rfl); (case hr => first | (go_simp; done) | (go_simp; rfl)); intro g1 hg w3 hbox hb; have HB1 : Aside0 (Below w.heap.size w w3) := ⟨hb⟩; have BK1 := mz hbox; have G1 := mz hg; have x1 : w3.cell? ⟨g1, 0, none⟩ = some (.slice A0_0 l0_0.length c0_0) := (blk_cell hbox 0).trans rfl; clear hb hbox hg) | ((with_reducible refine gate_dst (N := 8) rfl ?_); refine box_event ?hg (N := 8) ?hd (cs := #[.slice none 0 0]) (t := 28) ?hr ?_; (case hd => rfl); (case hg => rfl); (case hr => first | (go_simp; done) | (go_simp; rfl)); intro g8 hg w4 hbox hb; have HB2 := mz (below_step HB1.out hb); have BK2 := mz (blk_below BK1.out hb); have RK2 := mz hbox; have NE := mz (show g1 ≠ g8 by rw [hg]; exact Nat.ne_of_lt (Array.getElem?_eq_some_iff.1 BK1.out).1); have G4 := mz hg; have x2 : w4.cell? ⟨g1, 0, none⟩ = some (.slice A0_0 l0_0.length c0_0) := (blk_cell BK2.out 0).trans rfl; clear hb hbox hg x1) | (go_at_call 16; (with_reducible refine (impl_GoodSeq.calls A0_0 c0_0 l0_0 true _ (Kd.C_below HR.out HB2.out) HC.out HG.out).mono ?_); rintro e w5 ⟨rfl, hb5⟩; have HB3 := mz (below_step HB2.out hb5); have BK3 := mz (blk_below BK2.out hb5); have RK3 := mz (blk_below RK2.out hb5); have y3 : w5.cell? ⟨g8, 0, none⟩ = some (.slice none 0 0) := (blk_cell RK3.out 0).trans rfl; have z3 := blk_frozen RK3.out 0; clear hb5))
      refine bodyPost_ret (results_ct rfl _ _ g8 28 #[.slice none 0 0] (0, 0) _ rfl (blk_put (cs := #[.slice none 0 0]) RK3.out 0 _ rfl) Try.underlying28 rfl (by kernel_rfl)) rfl ?_
      exact ⟨.slice none 0 0, rfl, Kd.R_nil _ _ _ _ _, below_set HB3.out (by have h1 := G4.out; have h2 := HB1.out.size; show w.heap.size ≤ g8; omega)⟩
    by_cases n2 : 9 < a1
    · have hv : putV l0_0 a1 a2 a3 = ([], false) := by
        unfold putV
        rw [if_neg (by rintro ⟨q1, q2, q3, q4, q5, q6, q7⟩; omega)]
      rw [hv] at h0
      obtain ⟨rfl, rfl⟩ := Prod.mk.inj h0
      clear hv p h0
      go_enter Try.func7, Try.ntmps7
      go_wp2_with (first | ((with_reducible refine gate_dst (N := 4) rfl ?_); refine box_event ?hg (N := 4) ?hd (cs := #[.slice A0_0 l0_0.length c0_0]) (t := 28) ?hr ?_; (case hd => rfl); (case hg => rfl); (case hr => first | (go_simp; done) | (go_simp; rfl)); intro g1 hg w3 hbox hb; have HB1 : Aside0 (Below w.heap.size w w3) := ⟨hb⟩; have BK1 := mz hbox; have G1 := mz hg; have x1 : w3.cell? ⟨g1, 0, none⟩ = some (.slice A0_0 l0_0.length c0_0) := (blk_cell hbox 0).trans rfl; clear hb hbox hg) | ((with_reducible refine gate_dst (N := 8) rfl ?_); refine box_event ?hg (N := 8) ?hd (cs := #[.slice none 0 0]) (t := 28) ?hr ?_; (case hd => rfl); (case hg => rfl); (case hr => first | (go_simp; done) | (go_simp; rfl)); intro g8 hg w4 hbox hb; have HB2 := mz (below_step HB1.out hb); have BK2 := mz (blk_below BK1.out hb); have RK2 := mz hbox; have NE := mz (show g1 ≠ g8 by rw [hg]; exact Nat.ne_of_lt (Array.getElem?_eq_some_iff.1 BK1.out).1); have G4 := mz hg; have x2 : w4.cell? ⟨g1, 0, none⟩ = some (.slice A0_0 l0_0.length c0_0) := (blk_cell BK2.out 0).trans rfl; clear hb hbox hg x1) | (go_at_call 16; (with_reducible refine (impl_GoodSeq.calls A0_0 c0_0 l0_0 true _ (Kd.C_below HR.out HB2.out) HC.out HG.out).mono ?_); rintro e w5 ⟨rfl, hb5⟩; have HB3 := mz (below_step HB2.out hb5); have BK3 := mz (blk_below BK2.out hb5); have RK3 := mz (blk_below RK2.out hb5); have y3 : w5.cell? ⟨g8, 0, none⟩ = some (.slice none 0 0) := (blk_cell RK3.out 0).trans rfl; have z3 := blk_frozen RK3.out 0; clear hb5))
      refine bodyPost_ret (results_ct rfl _ _ g8 28 #[.slice none 0 0] (0, 0) _ rfl (blk_put (cs := #[.slice none 0 0]) RK3.out 0 _ rfl) Try.underlying28 rfl (by kernel_rfl)) rfl ?_
      exact ⟨.slice none 0 0, rfl, Kd.R_nil _ _ _ _ _, below_set HB3.out (by have h1 := G4.out; have h2 := HB1.out.size; show w.heap.size ≤ g8; omega)⟩
    have hkb := HKB0.out
    cases pb : oneB a3 with
    | false =>
      have hv : putV l0_0 a1 a2 a3 = ([], false) := by
        unfold putV
        rw [if_neg (by rintro ⟨q1, q2, q3, q4, q5, q6, q7⟩; rw [pb] at q4; cases q4)]
      rw [hv] at h0
      obtain ⟨rfl, rfl⟩ := Prod.mk.inj h0
      rw [pb] at hkb
      have HKB := mz hkb
      clear hv p h0 hkb pb HKB0
      go_enter Try.func7, Try.ntmps7
      go_wp2_with (first | ((with_reducible refine gate_dst (N := 4) rfl ?_); refine box_event ?hg (N := 4) ?hd (cs := #[.slice A0_0 l0_0.length c0_0]) (t := 28) ?hr ?_; (case hd => rfl); (case hg => rfl); (case hr => first | (go_simp; done) | (go_simp; rfl)); intro g1 hg w3 hbox hb; have HB1 : Aside0 (Below w.heap.size w w3) := ⟨hb⟩; have BK1 := mz hbox; have G1 := mz hg; have x1 : w3.cell? ⟨g1, 0, none⟩ = some (.slice A0_0 l0_0.length c0_0) := (blk_cell hbox 0).trans rfl; clear hb hbox hg) | ((with_reducible refine gate_dst (N := 8) rfl ?_); refine box_event ?hg (N := 8) ?hd (cs := #[.slice none 0 0]) (t := 28) ?hr ?_; (case hd => rfl); (case hg => rfl); (case hr => first | (go_simp; done) | (go_simp; rfl)); intro g8 hg w4 hbox hb; have HB2 := mz (below_step HB1.out hb); have BK2 := mz (blk_below BK1.out hb); have RK2 := mz hbox; have NE := mz (show g1 ≠ g8 by rw [hg]; exact Nat.ne_of_lt (Array.getElem?_eq_some_iff.1 BK1.out).1); have G4 := mz hg; have x2 : w4.cell? ⟨g1, 0, none⟩ = some (.slice A0_0 l0_0.length c0_0) := (blk_cell BK2.out 0).trans rfl; clear hb hbox hg x1) | (go_at_call 16; (with_reducible refine (impl_GoodSeq.calls A0_0 c0_0 l0_0 true _ (Kd.C_below HR.out HB2.out) HC.out HG.out).mono ?_); rintro e w5 ⟨rfl, hb5⟩; have HB3 := mz (below_step HB2.out hb5); have BK3 := mz (blk_below BK2.out hb5); have RK3 := mz (blk_below RK2.out hb5); have y3 : w5.cell? ⟨g8, 0, none⟩ = some (.slice none 0 0) := (blk_cell RK3.out 0).trans rfl; have z3 := blk_frozen RK3.out 0; clear hb5) | (go_at_call 17; (with_reducible refine (impl_isByte.calls kb a3 false _ HKB.out).mono ?_); rintro e w5b ⟨rfl, hd5⟩; have hb5b := below_drawn0 hd5; have HB3b := mz (below_step HB3.out hb5b); have BK3b := mz (blk_below BK3.out hb5b); have RK3b := mz (blk_below RK3.out hb5b); have y3b : w5b.cell? ⟨g8, 0, none⟩ = some (.slice none 0 0) := (blk_cell RK3b.out 0).trans rfl; have z3b := blk_frozen RK3b.out 0; clear hb5b hd5 y3 z3))
      refine bodyPost_ret (results_ct rfl _ _ g8 28 #[.slice none 0 0] (0, 0) _ rfl (blk_put (cs := #[.slice none 0 0]) RK3b.out 0 _ rfl) Try.underlying28 rfl (by kernel_rfl)) rfl ?_
      exact ⟨.slice none 0 0, rfl, Kd.R_nil _ _ _ _ _, below_set HB3b.out (by have h1 := G4.out; have h2 := HB1.out.size; show w.heap.size ≤ g8; omega)⟩
    | true =>
      rw [pb] at hkb
      have HKB := mz hkb
      clear hkb HKB0
      by_cases n3 : a2 < 0
      · have hv : putV l0_0 a1 a2 a3 = ([], false) := by
          unfold putV
          rw [if_neg (by rintro ⟨q1, q2, q3, q4, q5, q6, q7⟩; omega)]
        rw [hv] at h0
        obtain ⟨rfl, rfl⟩ := Prod.mk.inj h0
        clear hv p h0 pb
        go_enter Try.func7, Try.ntmps7
        go_wp2_with (first | ((with_reducible refine gate_dst (N := 4) rfl ?_); refine box_event ?hg (N := 4) ?hd (cs := #[.slice A0_0 l0_0.length c0_0]) (t := 28) ?hr ?_; (case hd => rfl); (case hg => rfl); (case hr => first | (go_simp; done) | (go_simp; rfl)); intro g1 hg w3 hbox hb; have HB1 : Aside0 (Below w.heap.size w w3) := ⟨hb⟩; have BK1 := mz hbox; have G1 := mz hg; have x1 : w3.cell? ⟨g1, 0, none⟩ = some (.slice A0_0 l0_0.length c0_0) := (blk_cell hbox 0).trans rfl; clear hb hbox hg) | ((with_reducible refine gate_dst (N := 8) rfl ?_); refine box_event ?hg (N := 8) ?hd (cs := #[.slice none 0 0]) (t := 28) ?hr ?_; (case hd => rfl); (case hg => rfl); (case hr => first | (go_simp; done) | (go_simp; rfl)); intro g8 hg w4 hbox hb; have HB2 := mz (below_step HB1.out hb); have BK2 := mz (blk_below BK1.out hb); have RK2 := mz hbox; have NE := mz (show g1 ≠ g8 by rw [hg]; exact Nat.ne_of_lt (Array.getElem?_eq_some_iff.1 BK1.out).1); have G4 := mz hg; have x2 : w4.cell? ⟨g1, 0, none⟩ = some (.slice A0_0 l0_0.length c0_0) := (blk_cell BK2.out 0).trans rfl; clear hb hbox hg x1) | (go_at_call 16; (with_reducible refine (impl_GoodSeq.calls A0_0 c0_0 l0_0 true _ (Kd.C_below HR.out HB2.out) HC.out HG.out).mono ?_); rintro e w5 ⟨rfl, hb5⟩; have HB3 := mz (below_step HB2.out hb5); have BK3 := mz (blk_below BK2.out hb5); have RK3 := mz (blk_below RK2.out hb5); have y3 : w5.cell? ⟨g8, 0, none⟩ = some (.slice none 0 0) := (blk_cell RK3.out 0).trans rfl; have z3 := blk_frozen RK3.out 0; clear hb5) | (go_at_call 17; (with_reducible refine (impl_isByte.calls kb a3 true _ HKB.out).mono ?_); rintro e w5b ⟨rfl, hd5⟩; have hb5b := below_drawn0 hd5; have HB3b := mz (below_step HB3.out hb5b); have BK3b := mz (blk_below BK3.out hb5b); have RK3b := mz (blk_below RK3.out hb5b); have y3b : w5b.cell? ⟨g8, 0, none⟩ = some (.slice none 0 0) := (blk_cell RK3b.out 0).trans rfl; have z3b := blk_frozen RK3b.out 0; clear hb5b hd5 y3 z3) | (go_at_call 18; (with_reducible refine (seen_walk l0_0 HT.out g1 A0_0 c0_0 _ BK3b.out (Kd.C_below HR.out HB3b.out) HC.out).mono ?_); rintro e w6 ⟨Ao, co, rfl, hown6, hb6⟩; have HO6 := mz hown6; have HB6 := mz (below_step HB3b.out hb6); have BK6 := mz (blk_below BK3b.out hb6); have RK6 := mz (blk_below RK3b.out hb6); have y6 : w6.cell? ⟨g8, 0, none⟩ = some (.slice none 0 0) := (blk_cell RK6.out 0).trans rfl; have z6 := blk_frozen RK6.out 0; have x6 : w6.cell? ⟨g1, 0, none⟩ = some (.slice A0_0 l0_0.length c0_0) := (blk_cell BK6.out 0).trans rfl; clear hb6 hown6 y3b z3b))
        refine bodyPost_ret (results_ct rfl _ _ g8 28 #[.slice none 0 0] (0, 0) _ rfl (blk_put (cs := #[.slice none 0 0]) RK6.out 0 _ rfl) Try.underlying28 rfl (by kernel_rfl)) rfl ?_
        exact ⟨.slice none 0 0, rfl, Kd.R_nil _ _ _ _ _, below_set HB6.out (by have h1 := G4.out; have h2 := HB1.out.size; show w.heap.size ≤ g8; omega)⟩
      by_cases n4 : ((shownL l0_0).length : Int) < a2
      · have hv : putV l0_0 a1 a2 a3 = ([], false) := by
          unfold putV
          rw [if_neg (by rintro ⟨q1, q2, q3, q4, q5, q6, q7⟩; omega)]
        rw [hv] at h0
        obtain ⟨rfl, rfl⟩ := Prod.mk.inj h0
        clear hv p h0 pb
        go_enter Try.func7, Try.ntmps7
        go_wp2_with (first | ((with_reducible refine gate_dst (N := 4) rfl ?_); refine box_event ?hg (N := 4) ?hd (cs := #[.slice A0_0 l0_0.length c0_0]) (t := 28) ?hr ?_; (case hd => rfl); (case hg => rfl); (case hr => first | (go_simp; done) | (go_simp; rfl)); intro g1 hg w3 hbox hb; have HB1 : Aside0 (Below w.heap.size w w3) := ⟨hb⟩; have BK1 := mz hbox; have G1 := mz hg; have x1 : w3.cell? ⟨g1, 0, none⟩ = some (.slice A0_0 l0_0.length c0_0) := (blk_cell hbox 0).trans rfl; clear hb hbox hg) | ((with_reducible refine gate_dst (N := 8) rfl ?_); refine box_event ?hg (N := 8) ?hd (cs := #[.slice none 0 0]) (t := 28) ?hr ?_; (case hd => rfl); (case hg => rfl); (case hr => first | (go_simp; done) | (go_simp; rfl)); intro g8 hg w4 hbox hb; have HB2 := mz (below_step HB1.out hb); have BK2 := mz (blk_below BK1.out hb); have RK2 := mz hbox; have NE := mz (show g1 ≠ g8 by rw [hg]; exact Nat.ne_of_lt (Array.getElem?_eq_some_iff.1 BK1.out).1); have G4 := mz hg; have x2 : w4.cell? ⟨g1, 0, none⟩ = some (.slice A0_0 l0_0.length c0_0) := (blk_cell BK2.out 0).trans rfl; clear hb hbox hg x1) | (go_at_call 16; (with_reducible refine (impl_GoodSeq.calls A0_0 c0_0 l0_0 true _ (Kd.C_below HR.out HB2.out) HC.out HG.out).mono ?_); rintro e w5 ⟨rfl, hb5⟩; have HB3 := mz (below_step HB2.out hb5); have BK3 := mz (blk_below BK2.out hb5); have RK3 := mz (blk_below RK2.out hb5); have y3 : w5.cell? ⟨g8, 0, none⟩ = some (.slice none 0 0) := (blk_cell RK3.out 0).trans rfl; have z3 := blk_frozen RK3.out 0; clear hb5) | (go_at_call 17; (with_reducible refine (impl_isByte.calls kb a3 true _ HKB.out).mono ?_); rintro e w5b ⟨rfl, hd5⟩; have hb5b := below_drawn0 hd5; have HB3b := mz (below_step HB3.out hb5b); have BK3b := mz (blk_below BK3.out hb5b); have RK3b := mz (blk_below RK3.out hb5b); have y3b : w5b.cell? ⟨g8, 0, none⟩ = some (.slice none 0 0) := (blk_cell RK3b.out 0).trans rfl; have z3b := blk_frozen RK3b.out 0; clear hb5b hd5 y3 z3) | (go_at_call 18; (with_reducible refine (seen_walk l0_0 HT.out g1 A0_0 c0_0 _ BK3b.out (Kd.C_below HR.out HB3b.out) HC.out).mono ?_); rintro e w6 ⟨Ao, co, rfl, hown6, hb6⟩; have HO6 := mz hown6; have HB6 := mz (below_step HB3b.out hb6); have BK6 := mz (blk_below BK3b.out hb6); have RK6 := mz (blk_below RK3b.out hb6); have y6 : w6.cell? ⟨g8, 0, none⟩ = some (.slice none 0 0) := (blk_cell RK6.out 0).trans rfl; have z6 := blk_frozen RK6.out 0; have x6 : w6.cell? ⟨g1, 0, none⟩ = some (.slice A0_0 l0_0.length c0_0) := (blk_cell BK6.out 0).trans rfl; clear hb6 hown6 y3b z3b))
        refine bodyPost_ret (results_ct rfl _ _ g8 28 #[.slice none 0 0] (0, 0) _ rfl (blk_put (cs := #[.slice none 0 0]) RK6.out 0 _ rfl) Try.underlying28 rfl (by kernel_rfl)) rfl ?_
        exact ⟨.slice none 0 0, rfl, Kd.R_nil _ _ _ _ _, below_set HB6.out (by have h1 := G4.out; have h2 := HB1.out.size; show w.heap.size ≤ g8; omega)⟩
      by_cases n5 : 0 < a2
      · have hk : (a2 - 1).toNat < (shownL l0_0).length := by omega
        obtain ⟨j, hj, ej⟩ := shownL_in l0_0 _ (List.getElem_mem hk)
        have n6 : 0 < l0_0.length := by omega
        have hrd : rd (shownL l0_0) (a2 - 1) = (j : Int) := by
          have e1 : a2 - 1 = (((a2 - 1).toNat : Nat) : Int) := by omega
          rw [e1, rd, List.getD_eq_getElem?_getD, Int.toNat_natCast, List.getElem?_eq_getElem hk, Option.getD_some, ej]
        have HRD := mz hrd
        have hza : (0 : Int) ≤ a2 - 1 := by omega
        have hzb : a2 - 1 < ((shownL l0_0).length : Int) := by omega
        have hz0 : (0 : Int) ≤ (j : Int) := by omega
        have hz1 : (j : Int) < (l0_0.length : Int) := by omega
        have HZJ := mz (sizedA_of HSZ.out _ (List.getElem_mem hj))
        have HSL := mz (shownL_len l0_0 HT.out)
        have hsl2 : a2 ≤ 10000 := by have := HSL.out; omega
        clear hrd ej hk
        have hwr : IntKind.i64.wrap (a2 - 1) = a2 - 1 := by rw [i64_w, w64 (by omega) (by omega)]
        have n6z : (0 : Int) < (l0_0.length : Int) := by omega
        have n7 : (0 : Int) ≤ (l0_0.length : Int) - 1 := by omega
        have n8 : (l0_0.length : Int) - 1 < (l0_0.length : Int) := by omega
        have n9 := HT.out.len
        have hpl := (plainA_of ((goodS_of p).2.1 _ (List.getElem_mem (show l0_0.length - 1 < l0_0.length by omega))))
        have hlt : (rd_T41 l0_0 ((l0_0.length : Int) - 1)).f0 = (l0_0[l0_0.length - 1]).f0 := by
          rw [show (l0_0.length : Int) - 1 = ((l0_0.length - 1 : Nat) : Int) by omega, rd_atom l0_0 (l0_0.length - 1) (by omega)]
        have ht1 : 1 ≤ (rd_T41 l0_0 ((l0_0.length : Int) - 1)).f0 := by rw [hlt]; exact hpl.1
        have ht2 : (rd_T41 l0_0 ((l0_0.length : Int) - 1)).f0 ≤ 10000 := by rw [hlt]; exact hpl.2.1
        have H0 := mz h0
        have HG0 := mz p
        have HOB := mz pb
        clear p pb h0 hpl hlt
        generalize hlast : (rd_T41 l0_0 ((l0_0.length : Int) - 1)).f0 = tl at ht1 ht2
        have HLAST := mz hlast
        clear hlast
        go_enter Try.func7, Try.ntmps7
        go_wp2_with (first | ((with_reducible refine gate_dst (N := 4) rfl ?_); refine box_event ?hg (N := 4) ?hd (cs := #[.slice A0_0 l0_0.length c0_0]) (t := 28) ?hr ?_; (case hd => rfl); (case hg => rfl); (case hr => first | (go_simp; done) | (go_simp; rfl)); intro g1 hg w3 hbox hb; have HB1 : Aside0 (Below w.heap.size w w3) := ⟨hb⟩; have BK1 := mz hbox; have G1 := mz hg; have x1 : w3.cell? ⟨g1, 0, none⟩ = some (.slice A0_0 l0_0.length c0_0) := (blk_cell hbox 0).trans rfl; clear hb hbox hg) | ((with_reducible refine gate_dst (N := 8) rfl ?_); refine box_event ?hg (N := 8) ?hd (cs := #[.slice none 0 0]) (t := 28) ?hr ?_; (case hd => rfl); (case hg => rfl); (case hr => first | (go_simp; done) | (go_simp; rfl)); intro g8 hg w4 hbox hb; have HB2 := mz (below_step HB1.out hb); have BK2 := mz (blk_below BK1.out hb); have RK2 := mz hbox; have NE := mz (show g1 ≠ g8 by rw [hg]; exact Nat.ne_of_lt (Array.getElem?_eq_some_iff.1 BK1.out).1); have G4 := mz hg; have x2 : w4.cell? ⟨g1, 0, none⟩ = some (.slice A0_0 l0_0.length c0_0) := (blk_cell BK2.out 0).trans rfl; clear hb hbox hg x1) | (go_at_call 16; (with_reducible refine (impl_GoodSeq.calls A0_0 c0_0 l0_0 true _ (Kd.C_below HR.out HB2.out) HC.out HG.out).mono ?_); rintro e w5 ⟨rfl, hb5⟩; have HB3 := mz (below_step HB2.out hb5); have BK3 := mz (blk_below BK2.out hb5); have RK3 := mz (blk_below RK2.out hb5); have y3 : w5.cell? ⟨g8, 0, none⟩ = some (.slice none 0 0) := (blk_cell RK3.out 0).trans rfl; have z3 := blk_frozen RK3.out 0; clear hb5) | (go_at_call 17; (with_reducible refine (impl_isByte.calls kb a3 true _ HKB.out).mono ?_); rintro e w5b ⟨rfl, hd5⟩; have hb5b := below_drawn0 hd5; have HB3b := mz (below_step HB3.out hb5b); have BK3b := mz (blk_below BK3.out hb5b); have RK3b := mz (blk_below RK3.out hb5b); have y3b : w5b.cell? ⟨g8, 0, none⟩ = some (.slice none 0 0) := (blk_cell RK3b.out 0).trans rfl; have z3b := blk_frozen RK3b.out 0; clear hb5b hd5 y3 z3) | (go_at_call 18; (with_reducible refine (seen_walk l0_0 HT.out g1 A0_0 c0_0 _ BK3b.out (Kd.C_below HR.out HB3b.out) HC.out).mono ?_); rintro e w6 ⟨Ao, co, rfl, hown6, hb6⟩; have HO6 := mz hown6; have HB6 := mz (below_step HB3b.out hb6); have BK6 := mz (blk_below BK3b.out hb6); have RK6 := mz (blk_below RK3b.out hb6); have y6 : w6.cell? ⟨g8, 0, none⟩ = some (.slice none 0 0) := (blk_cell RK6.out 0).trans rfl; have z6 := blk_frozen RK6.out 0; have x6 : w6.cell? ⟨g1, 0, none⟩ = some (.slice A0_0 l0_0.length c0_0) := (blk_cell BK6.out 0).trans rfl; clear hb6 hown6 y3b z3b; have WA := mz ((Below.refl _ w6).alloc (Nat.le_refl _) (.cells #[.int .i64 1, .int .i64 a1, .int .i64 0, .int .i64 0, .string a3, .bool false] 41)); have xa : (w6.alloc (.cells #[.int .i64 1, .int .i64 a1, .int .i64 0, .int .i64 0, .string a3, .bool false] 41)).cell? ⟨g1, 0, none⟩ = some (.slice A0_0 l0_0.length c0_0) := cell_step x6 WA.out; clear x6 y6 z6; obtain ⟨ad, eA, hl0, hl1, hl2, hl3, hl4, hl5⟩ := at_T41 (Kd.C_below (Kd.C_below HR.out HB6.out) WA.out) ((l0_0.length : Int) - 1) (by omega) (by omega); cases eA; rw [HLAST.out] at hl0; have hl0b := hl0; rw [show ((l0_0.length : Int) - 1).toNat = l0_0.length - 1 from by omega] at hl0b; clear hl1 hl2 hl3 hl4 hl5))
        have X1 : (w6.alloc (.cells #[.int .i64 (tl + 1), .int .i64 a1, .int .i64 0, .int .i64 0, .string a3, .bool false] 41)).heap[g1]? = _ := (Below.heap_alloc w6 _ _ (Array.getElem?_eq_some_iff.1 BK6.out).1).trans BK6.out
        have X8 : (w6.alloc (.cells #[.int .i64 (tl + 1), .int .i64 a1, .int .i64 0, .int .i64 0, .string a3, .bool false] 41)).heap[g8]? = _ := (Below.heap_alloc w6 _ _ (Array.getElem?_eq_some_iff.1 RK6.out).1).trans RK6.out
        have XA := World.alloc_heap_new w6 (.cells #[.int .i64 (tl + 1), .int .i64 a1, .int .i64 0, .int .i64 0, .string a3, .bool false] 41)
        have XB : Below w.heap.size w (w6.alloc (.cells #[.int .i64 (tl + 1), .int .i64 a1, .int .i64 0, .int .i64 0, .string a3, .bool false] 41)) := HB6.out.alloc (below_size HB6.out) _
        have XO := HO6.out.alloc (.cells #[.int .i64 (tl + 1), .int .i64 a1, .int .i64 0, .int .i64 0, .string a3, .bool false] 41)
        have hga1 : g1 < w6.heap.size := (Array.getElem?_eq_some_iff.1 BK6.out).1
        have hga8 : g8 < w6.heap.size := (Array.getElem?_eq_some_iff.1 RK6.out).1
        clear xa hl0 hl0b
        generalize hwu : w6.alloc (.cells #[.int .i64 (tl + 1), .int .i64 a1, .int .i64 0, .int .i64 0, .string a3, .bool false] 41) = wu at X1 X8 XA XB XO ⊢
        generalize hga : w6.heap.size = ga at XA hga1 hga8 ⊢
        obtain ⟨Asx, csx, esx, _, hCs⟩ := Kd.R_reads (Kd.R_of_own (enc := Value.int .i64) (h1 := fun _ => rfl) (ok := fun _ => True) XO (fun _ _ => trivial))
        injection esx with esx1 esx2 esx3
        subst esx1
        obtain ⟨sd, eas, s2⟩ := Kd.at_int hCs (a2 - 1) hza hzb
        cases eas
        rw [HRD.out, show (a2 - 1).toNat = a2.toNat - 1 from by omega] at s2
        have hzc : 1 ≤ a2 := by omega
        obtain ⟨ad2, eA2, q0, q1, q2, q3, q4, q5⟩ := at_T41 (Kd.C_below HR.out XB) (j : Int) hz0 hz1
        cases eA2
        rw [rd_atom l0_0 j hj, Int.toNat_natCast] at q0 q1 q2 q3 q4 q5
        have HZE : Aside0 (rd_T41 l0_0 (j : Int) = l0_0[j]) := ⟨rd_atom l0_0 j hj⟩
        generalize l0_0[j] = z at q0 q1 q2 q3 q4 q5 HZJ HZE
        have s1 : wu.cell? ⟨g1, 0, none⟩ = some (.slice (some ad) l0_0.length c0_0) := (blk_cell X1 0).trans rfl
        clear hwu hCs XO
        have hS : (fun W' : World => W'.cell? ⟨g1, 0, none⟩ = some (.slice (some ad) l0_0.length c0_0) ∧ W'.cell? (sd.add (a2.toNat - 1)) = some (.int .i64 (j : Int)) ∧ W'.cell? (ad.add (j * 6)) = some (.int .i64 z.f0) ∧ W'.cell? ⟨(ad.add (j * 6)).block, (ad.add (j * 6)).off + 1, none⟩ = some (.int .i64 z.f1) ∧ W'.cell? ⟨(ad.add (j * 6)).block, (ad.add (j * 6)).off + 2, none⟩ = some (.int .i64 z.f2) ∧ W'.cell? ⟨(ad.add (j * 6)).block, (ad.add (j * 6)).off + 3, none⟩ = some (.int .i64 z.f3) ∧ W'.cell? ⟨(ad.add (j * 6)).block, (ad.add (j * 6)).off + 4, none⟩ = some (.string z.f4) ∧ W'.cell? ⟨(ad.add (j * 6)).block, (ad.add (j * 6)).off + 5, none⟩ = some (.bool z.f5)) wu.drew := ⟨s1, s2, q0, q1, q2, q3, q4, q5⟩
        refine wp_region_held_drew (S := fun W' : World => W'.cell? ⟨g1, 0, none⟩ = some (.slice (some ad) l0_0.length c0_0) ∧ W'.cell? (sd.add (a2.toNat - 1)) = some (.int .i64 (j : Int)) ∧ W'.cell? (ad.add (j * 6)) = some (.int .i64 z.f0) ∧ W'.cell? ⟨(ad.add (j * 6)).block, (ad.add (j * 6)).off + 1, none⟩ = some (.int .i64 z.f1) ∧ W'.cell? ⟨(ad.add (j * 6)).block, (ad.add (j * 6)).off + 2, none⟩ = some (.int .i64 z.f2) ∧ W'.cell? ⟨(ad.add (j * 6)).block, (ad.add (j * 6)).off + 3, none⟩ = some (.int .i64 z.f3) ∧ W'.cell? ⟨(ad.add (j * 6)).block, (ad.add (j * 6)).off + 4, none⟩ = some (.string z.f4) ∧ W'.cell? ⟨(ad.add (j * 6)).block, (ad.add (j * 6)).off + 5, none⟩ = some (.bool z.f5)) rfl hS fun hHeld => ?_
        refine' tI 0 ?_
        refine' tI 1 ?_
        refine' tI 2 ?_
        refine' tI 3 ?_
        refine' tI 4 ?_
        refine' tI 5 ?_
        refine' tI 6 ?_
        refine' tI 7 ?_
        refine' tI 8 ?_
        refine wpAnyH_ready (rs := [9]) (by kernel_rfl) (by simp) ?_
        refine AllReadyH.cons rfl (fun K hK => ?_) AllReadyH.nil
        go_simp
        have hal := below_drew1 ((Below.refl wu.heap.size wu).alloc (Nat.le_refl _) (.cells #[.int .i64 0, .int .i64 0, .int .i64 0, .int .i64 0, .string ⟨#[]⟩, .bool false] 41))
        have s1b := cell_step s1 hal
        have s2b := cell_step s2 hal
        have q0b := cell_step q0 hal
        have q1b := cell_step q1 hal
        have q2b := cell_step q2 hal
        have q3b := cell_step q3 hal
        have q4b := cell_step q4 hal
        have q5b := cell_step q5 hal
        refine hK.out _ _ ⟨s1b, s2b, q0b, q1b, q2b, q3b, q4b, q5b⟩ ?_
        intro hH9
        clear hK K hal s1b s2b q0b q1b q2b q3b q4b q5b
        (try simp only [Act.put, List.getElem_toArray, List.getElem_cons_succ, List.getElem_cons_zero, List.setIfInBounds_toArray, List.set_cons_zero, List.set_cons_succ])
        refine wpAnyH_ready (rs := [10]) (by kernel_rfl) (by simp) ?_
        refine AllReadyH.cons rfl (fun K hK => ?_) AllReadyH.nil
        go_simp
        have hal := below_drew1 ((Below.refl wu.heap.size wu).alloc (Nat.le_refl _) (.cells #[.int .i64 z.f0, .int .i64 z.f1, .int .i64 z.f2, .int .i64 z.f3, .string z.f4, .bool z.f5] 41))
        have V1 : (wu.alloc (.cells #[.int .i64 z.f0, .int .i64 z.f1, .int .i64 z.f2, .int .i64 z.f3, .string z.f4, .bool z.f5] 41)).drew.heap[g1]? = _ := (Below.heap_alloc wu _ _ (Array.getElem?_eq_some_iff.1 X1).1).trans X1
        have V8 : (wu.alloc (.cells #[.int .i64 z.f0, .int .i64 z.f1, .int .i64 z.f2, .int .i64 z.f3, .string z.f4, .bool z.f5] 41)).drew.heap[g8]? = _ := (Below.heap_alloc wu _ _ (Array.getElem?_eq_some_iff.1 X8).1).trans X8
        have VA : (wu.alloc (.cells #[.int .i64 z.f0, .int .i64 z.f1, .int .i64 z.f2, .int .i64 z.f3, .string z.f4, .bool z.f5] 41)).drew.heap[ga]? = _ := (Below.heap_alloc wu _ _ (Array.getElem?_eq_some_iff.1 XA).1).trans XA
        have VG : (wu.alloc (.cells #[.int .i64 z.f0, .int .i64 z.f1, .int .i64 z.f2, .int .i64 z.f3, .string z.f4, .bool z.f5] 41)).drew.heap[wu.heap.size]? = _ := World.alloc_heap_new wu (.cells #[.int .i64 z.f0, .int .i64 z.f1, .int .i64 z.f2, .int .i64 z.f3, .string z.f4, .bool z.f5] 41)
        have VB : Below w.heap.size w (wu.alloc (.cells #[.int .i64 z.f0, .int .i64 z.f1, .int .i64 z.f2, .int .i64 z.f3, .string z.f4, .bool z.f5] 41)).drew := below_drew1 (XB.alloc (below_size XB) _)
        have hgab : ga < wu.heap.size := (Array.getElem?_eq_some_iff.1 XA).1
        have s1b := cell_step s1 hal
        have s2b := cell_step s2 hal
        have q0b := cell_step q0 hal
        have q1b := cell_step q1 hal
        have q2b := cell_step q2 hal
        have q3b := cell_step q3 hal
        have q4b := cell_step q4 hal
        have q5b := cell_step q5 hal
        refine hK.out _ _ ⟨s1b, s2b, q0b, q1b, q2b, q3b, q4b, q5b⟩ ?_
        intro hH10
        clear hK K hal s1b s2b q0b q1b q2b q3b q4b q5b hH10 hH9 hHeld hS s1 s2 q0 q1 q2 q3 q4 q5 X1 X8 XA XB
        generalize (wu.alloc (.cells #[.int .i64 z.f0, .int .i64 z.f1, .int .i64 z.f2, .int .i64 z.f3, .string z.f4, .bool z.f5] 41)).drew = wv at V1 V8 VA VG VB ⊢
        generalize wu.heap.size = gb at VG hgab ⊢
        (try simp only [Act.put, List.getElem_toArray, List.getElem_cons_succ, List.getElem_cons_zero, List.setIfInBounds_toArray, List.set_cons_zero, List.set_cons_succ])
        refine wpAnyH_done (by kernel_rfl) ?_ _
        go_wp2
        have hS : (fun W' : World => W'.cell? ⟨gb, 0, none⟩ = some (.int .i64 z.f0) ∧ W'.cell? ⟨gb, 1, none⟩ = some (.int .i64 z.f1)) wv.drew := ⟨(blk_cell (w := wv) VG 0).trans rfl, (blk_cell (w := wv) VG 1).trans rfl⟩
        refine wp_region_held_drew (S := fun W' : World => W'.cell? ⟨gb, 0, none⟩ = some (.int .i64 z.f0) ∧ W'.cell? ⟨gb, 1, none⟩ = some (.int .i64 z.f1)) rfl hS fun hHeld => ?_
        refine' tI 0 ?_
        refine' tI 1 ?_
        refine' tI 2 ?_
        refine' tI 3 ?_
        refine' tI 4 ?_
        refine wpAnyH_ready (rs := [5]) (by kernel_rfl) (by simp) ?_
        refine AllReadyH.cons rfl (fun K hK => ?_) AllReadyH.nil
        have c2 : wv.drew.cell? ⟨ga, 2, none⟩ = some (.int .i64 0) := (blk_cell (w := wv) VA 2).trans rfl
        have f2 : wv.drew.frozen? ⟨ga, 2, none⟩ = false := blk_frozen (w := wv) VA 2
        go_simp
        have ne1 : g1 ≠ ga := by omega
        have ne8 : g8 ≠ ga := by omega
        have neb : gb ≠ ga := by omega
        have W1 : (wv.setCell ⟨ga, 2, none⟩ (.int .i64 z.f0)).drew.heap[g1]? = _ := blk_far (w := wv) (p := ⟨ga, 2, none⟩) V1 ne1 (.int .i64 z.f0)
        have W8 : (wv.setCell ⟨ga, 2, none⟩ (.int .i64 z.f0)).drew.heap[g8]? = _ := blk_far (w := wv) (p := ⟨ga, 2, none⟩) V8 ne8 (.int .i64 z.f0)
        have WG : (wv.setCell ⟨ga, 2, none⟩ (.int .i64 z.f0)).drew.heap[gb]? = _ := blk_far (w := wv) (p := ⟨ga, 2, none⟩) VG neb (.int .i64 z.f0)
        have WA : (wv.setCell ⟨ga, 2, none⟩ (.int .i64 z.f0)).drew.heap[ga]? = some (.cells #[.int .i64 (tl + 1), .int .i64 a1, .int .i64 z.f0, .int .i64 0, .string a3, .bool false] 41 (0, 0)) := blk_put VA 2 (.int .i64 z.f0) rfl
        have WB : Below w.heap.size w (wv.setCell ⟨ga, 2, none⟩ (.int .i64 z.f0)).drew := below_drew1 (below_set VB (by show w.heap.size ≤ ga; have h1 := HB6.out.size; omega))
        refine hK.out _ _ ⟨(blk_cell (w := (wv.setCell ⟨ga, 2, none⟩ (.int .i64 z.f0)).drew) WG 0).trans rfl, (blk_cell (w := (wv.setCell ⟨ga, 2, none⟩ (.int .i64 z.f0)).drew) WG 1).trans rfl⟩ ?_
        intro hH5
        clear hK K c2 f2 V1 V8 VA VG VB hS hHeld hH5
        generalize (wv.setCell ⟨ga, 2, none⟩ (.int .i64 z.f0)).drew = wx at W1 W8 WA WG WB ⊢
        (try simp only [Act.put, List.getElem_toArray, List.getElem_cons_succ, List.getElem_cons_zero, List.setIfInBounds_toArray, List.set_cons_zero, List.set_cons_succ])
        have hS2 : (fun W' : World => W'.cell? ⟨gb, 0, none⟩ = some (.int .i64 z.f0) ∧ W'.cell? ⟨gb, 1, none⟩ = some (.int .i64 z.f1)) wx := ⟨(blk_cell (w := wx) WG 0).trans rfl, (blk_cell (w := wx) WG 1).trans rfl⟩
        refine' tI 6 ?_
        refine wpAnyH_ready (rs := [7]) (by kernel_rfl) (by simp) ?_
        refine AllReadyH.cons rfl (fun K hK => ?_) AllReadyH.nil
        have c3 : wx.cell? ⟨ga, 3, none⟩ = some (.int .i64 0) := (blk_cell (w := wx) WA 3).trans rfl
        have f3 : wx.frozen? ⟨ga, 3, none⟩ = false := blk_frozen (w := wx) WA 3
        go_simp
        have T1 : (wx.setCell ⟨ga, 3, none⟩ (.int .i64 z.f1)).heap[g1]? = _ := blk_far (w := wx) (p := ⟨ga, 3, none⟩) W1 ne1 (.int .i64 z.f1)
        have T8 : (wx.setCell ⟨ga, 3, none⟩ (.int .i64 z.f1)).heap[g8]? = _ := blk_far (w := wx) (p := ⟨ga, 3, none⟩) W8 ne8 (.int .i64 z.f1)
        have TG : (wx.setCell ⟨ga, 3, none⟩ (.int .i64 z.f1)).heap[gb]? = _ := blk_far (w := wx) (p := ⟨ga, 3, none⟩) WG neb (.int .i64 z.f1)
        have XA2 : (wx.setCell ⟨ga, 3, none⟩ (.int .i64 z.f1)).heap[ga]? = some (.cells #[.int .i64 (tl + 1), .int .i64 a1, .int .i64 z.f0, .int .i64 z.f1, .string a3, .bool false] 41 (0, 0)) := blk_put WA 3 (.int .i64 z.f1) rfl
        have TB : Below w.heap.size w (wx.setCell ⟨ga, 3, none⟩ (.int .i64 z.f1)) := below_set WB (by show w.heap.size ≤ ga; have h1 := HB6.out.size; omega)
        refine hK.out _ _ ⟨(blk_cell (w := (wx.setCell ⟨ga, 3, none⟩ (.int .i64 z.f1))) TG 0).trans rfl, (blk_cell (w := (wx.setCell ⟨ga, 3, none⟩ (.int .i64 z.f1))) TG 1).trans rfl⟩ ?_
        intro hH7
        clear hK K c3 f3 W1 W8 WA WG WB hS2 hH7 TG
        obtain ⟨y, hy⟩ : ∃ y : Atom, y = ⟨tl + 1, a1, z.f0, z.f1, a3, false⟩ := ⟨_, rfl⟩
        have HY : Aside0 (newA l0_0 a1 a2 a3 = y) := ⟨by rw [hy]; simp only [newA, if_pos n6, HLAST.out, if_pos n5, HRD.out, HZE.out]⟩
        have HQR : Aside0 (impl_goodSeq.f (l0_0 ++ [y]) = some (r1, r2)) := ⟨put_res HSZ.out HG0.out (by omega) (by omega) HOB.out (by omega) (by omega) HY.out (by rw [hy]; exact ⟨wf_small (by show 0 ≤ tl + 1; omega) (by show tl + 1 ≤ 100000; omega), wf_small (by show 0 ≤ a1; omega) (by show a1 ≤ 100000; omega), HZJ.out.1, HZJ.out.2.1, hsz3.out⟩) H0.out⟩
        have TA : (wx.setCell ⟨ga, 3, none⟩ (.int .i64 z.f1)).heap[ga]? = some (.cells #[.int .i64 y.f0, .int .i64 y.f1, .int .i64 y.f2, .int .i64 y.f3, .string y.f4, .bool y.f5] 41 (0, 0)) := by rw [hy]; exact XA2
        have nd18 : g1 ≠ g8 := NE.out
        have nda8 : ga ≠ g8 := by omega
        clear XA2 hy
        generalize (wx.setCell ⟨ga, 3, none⟩ (.int .i64 z.f1)) = wt at T1 T8 TA TB ⊢
        (try simp only [Act.put, List.getElem_toArray, List.getElem_cons_succ, List.getElem_cons_zero, List.setIfInBounds_toArray, List.set_cons_zero, List.set_cons_succ])
        refine wpAnyH_done (by kernel_rfl) ?_ _
        go_wp2
        have hS : (fun W' : World => W'.cell? ⟨g1, 0, none⟩ = some (.slice (some ad) l0_0.length c0_0) ∧ W'.cell? ⟨ga, 0, none⟩ = some (.int .i64 y.f0) ∧ W'.cell? ⟨ga, 1, none⟩ = some (.int .i64 y.f1) ∧ W'.cell? ⟨ga, 2, none⟩ = some (.int .i64 y.f2) ∧ W'.cell? ⟨ga, 3, none⟩ = some (.int .i64 y.f3) ∧ W'.cell? ⟨ga, 4, none⟩ = some (.string y.f4) ∧ W'.cell? ⟨ga, 5, none⟩ = some (.bool y.f5)) wt.drew := ⟨(blk_cell (w := wt) T1 0).trans rfl, (blk_cell (w := wt) TA 0).trans rfl, (blk_cell (w := wt) TA 1).trans rfl, (blk_cell (w := wt) TA 2).trans rfl, (blk_cell (w := wt) TA 3).trans rfl, (blk_cell (w := wt) TA 4).trans rfl, (blk_cell (w := wt) TA 5).trans rfl⟩
        refine wp_region_held_drew (S := fun W' : World => W'.cell? ⟨g1, 0, none⟩ = some (.slice (some ad) l0_0.length c0_0) ∧ W'.cell? ⟨ga, 0, none⟩ = some (.int .i64 y.f0) ∧ W'.cell? ⟨ga, 1, none⟩ = some (.int .i64 y.f1) ∧ W'.cell? ⟨ga, 2, none⟩ = some (.int .i64 y.f2) ∧ W'.cell? ⟨ga, 3, none⟩ = some (.int .i64 y.f3) ∧ W'.cell? ⟨ga, 4, none⟩ = some (.string y.f4) ∧ W'.cell? ⟨ga, 5, none⟩ = some (.bool y.f5)) rfl hS fun hHeld => ?_
        refine' tI 0 ?_
        refine' tI 1 ?_
        refine' tI 3 ?_
        refine wpAnyH_ready (rs := [2, 4]) (by kernel_rfl) (by simp) ?_
        refine AllReadyH.cons rfl (fun K hK => ?_) (AllReadyH.cons rfl (fun K hK => ?_) AllReadyH.nil)
        · go_simp
          go_at_call 20
          refine (cloneA_own (some ad) c0_0 l0_0 _ (Kd.C_below HR.out (below_drew1 TB)) HC.out (by omega)).mono ?_
          rintro e w7 ⟨v7, rfl, hown7, hb7⟩
          (try dsimp only)
          have K1 : w7.heap[g1]? = _ := blk_below (w := wt.drew) T1 hb7
          have K8 : w7.heap[g8]? = _ := blk_below (w := wt.drew) T8 hb7
          have KA : w7.heap[ga]? = _ := blk_below (w := wt.drew) TA hb7
          have KB : Below w.heap.size w w7 := below_step (below_drew1 TB) hb7
          have KO := own_weaken hown7 (below_size (below_drew1 TB))
          have hbase7 : ∀ k, v7.ownBlock = some k → wt.heap.size ≤ k := fun k hk => Nat.le_trans (by first | exact Nat.le_refl _ | (show wt.heap.size ≤ (wt.alloc _).heap.size; simp)) (own_base hown7 k hk)
          refine hK.out _ _ ⟨(blk_cell (w := w7) K1 0).trans rfl, (blk_cell (w := w7) KA 0).trans rfl, (blk_cell (w := w7) KA 1).trans rfl, (blk_cell (w := w7) KA 2).trans rfl, (blk_cell (w := w7) KA 3).trans rfl, (blk_cell (w := w7) KA 4).trans rfl, (blk_cell (w := w7) KA 5).trans rfl⟩ ?_
          intro _
          clear hK K hown7 hb7
          (try simp only [Act.put, List.getElem_toArray, List.getElem_cons_succ, List.getElem_cons_zero, List.setIfInBounds_toArray, List.set_cons_zero, List.set_cons_succ])
          refine wpAnyH_ready (rs := [4]) (by kernel_rfl) (by simp) ?_
          refine AllReadyH.cons rfl (fun K hK => ?_) AllReadyH.nil
          go_simp
          have J1 : (w7.alloc (.cells #[.int .i64 y.f0, .int .i64 y.f1, .int .i64 y.f2, .int .i64 y.f3, .string y.f4, .bool y.f5] 41)).heap[g1]? = _ := (Below.heap_alloc w7 _ _ (Array.getElem?_eq_some_iff.1 K1).1).trans K1
          have J8 : (w7.alloc (.cells #[.int .i64 y.f0, .int .i64 y.f1, .int .i64 y.f2, .int .i64 y.f3, .string y.f4, .bool y.f5] 41)).heap[g8]? = _ := (Below.heap_alloc w7 _ _ (Array.getElem?_eq_some_iff.1 K8).1).trans K8
          have JA : (w7.alloc (.cells #[.int .i64 y.f0, .int .i64 y.f1, .int .i64 y.f2, .int .i64 y.f3, .string y.f4, .bool y.f5] 41)).heap[ga]? = _ := (Below.heap_alloc w7 _ _ (Array.getElem?_eq_some_iff.1 KA).1).trans KA
          have JN : (w7.alloc (.cells #[.int .i64 y.f0, .int .i64 y.f1, .int .i64 y.f2, .int .i64 y.f3, .string y.f4, .bool y.f5] 41)).heap[w7.heap.size]? = _ := World.alloc_heap_new w7 (.cells #[.int .i64 y.f0, .int .i64 y.f1, .int .i64 y.f2, .int .i64 y.f3, .string y.f4, .bool y.f5] 41)
          have JB : Below w.heap.size w (w7.alloc (.cells #[.int .i64 y.f0, .int .i64 y.f1, .int .i64 y.f2, .int .i64 y.f3, .string y.f4, .bool y.f5] 41)) := KB.alloc (below_size KB) _
          have JO := KO.alloc (.cells #[.int .i64 y.f0, .int .i64 y.f1, .int .i64 y.f2, .int .i64 y.f3, .string y.f4, .bool y.f5] 41)
          have JNE : some ga ≠ v7.ownBlock := fun e => by have := hbase7 ga e.symm; have := (Array.getElem?_eq_some_iff.1 TA).1; omega
          refine hK.out _ _ ⟨(blk_cell (w := (w7.alloc (.cells #[.int .i64 y.f0, .int .i64 y.f1, .int .i64 y.f2, .int .i64 y.f3, .string y.f4, .bool y.f5] 41))) J1 0).trans rfl, (blk_cell (w := (w7.alloc (.cells #[.int .i64 y.f0, .int .i64 y.f1, .int .i64 y.f2, .int .i64 y.f3, .string y.f4, .bool y.f5] 41))) JA 0).trans rfl, (blk_cell (w := (w7.alloc (.cells #[.int .i64 y.f0, .int .i64 y.f1, .int .i64 y.f2, .int .i64 y.f3, .string y.f4, .bool y.f5] 41))) JA 1).trans rfl, (blk_cell (w := (w7.alloc (.cells #[.int .i64 y.f0, .int .i64 y.f1, .int .i64 y.f2, .int .i64 y.f3, .string y.f4, .bool y.f5] 41))) JA 2).trans rfl, (blk_cell (w := (w7.alloc (.cells #[.int .i64 y.f0, .int .i64 y.f1, .int .i64 y.f2, .int .i64 y.f3, .string y.f4, .bool y.f5] 41))) JA 3).trans rfl, (blk_cell (w := (w7.alloc (.cells #[.int .i64 y.f0, .int .i64 y.f1, .int .i64 y.f2, .int .i64 y.f3, .string y.f4, .bool y.f5] 41))) JA 4).trans rfl, (blk_cell (w := (w7.alloc (.cells #[.int .i64 y.f0, .int .i64 y.f1, .int .i64 y.f2, .int .i64 y.f3, .string y.f4, .bool y.f5] 41))) JA 5).trans rfl⟩ ?_
          intro _
          clear hK K
          (try simp only [Act.put, List.getElem_toArray, List.getElem_cons_succ, List.getElem_cons_zero, List.setIfInBounds_toArray, List.set_cons_zero, List.set_cons_succ])
          refine wpAnyH_ready (rs := [5]) (by kernel_rfl) (by simp) ?_
          refine AllReadyH.cons rfl (fun K hK => ?_) AllReadyH.nil
          obtain ⟨i0, hi, hz0, hz1, hz2⟩ := info_parts info41
          refine step_append_lies _ rfl (.tmp 77) (.tmp 79) 26 rfl w.heap.size 41 i0 (.agg #[.int .i64 0, .int .i64 0, .int .i64 0, .int .i64 0, .string ⟨#[]⟩, .bool false]) 6 56 Try.underlying26 hi hz0 hz1 hz2 rfl (by decide) v7 l0_0.length (l0_0.flatMap cellsA) (by rfl) JO ⟨w7.heap.size, 0, none⟩ 1 1 (cellsA y) (by rfl) rfl (World.news_of_block JN) (by intro u hu; exact cells_one [y] u (by simpa using hu)) (by omega) (by unfold maxLen; omega) (by omega) (below_size JB) _ rfl ?_
          intro g10 c10 w10 hown10 hg10 hat10 hlt10
          have L1 := blk_grown J1 hg10 (Boxed.not_row (show Boxed (w7.alloc (.cells #[.int .i64 y.f0, .int .i64 y.f1, .int .i64 y.f2, .int .i64 y.f3, .string y.f4, .bool y.f5] 41)) g1 28 _ from J1) (by decide) JO)
          have L8 := blk_grown J8 hg10 (Boxed.not_row (show Boxed (w7.alloc (.cells #[.int .i64 y.f0, .int .i64 y.f1, .int .i64 y.f2, .int .i64 y.f3, .string y.f4, .bool y.f5] 41)) g8 28 _ from J8) (by decide) JO)
          have LB : Below w.heap.size w w10 := JB.grown hg10 (below_size JB) (fun k hk => own_base JO k hk)
          have LA := blk_grown JA hg10 JNE
          have e10 : l0_0.flatMap cellsA ++ cellsA y = (l0_0 ++ [y]).flatMap cellsA := by rw [List.flatMap_append, List.flatMap_cons, List.flatMap_nil, List.append_nil]
          rw [e10] at hown10
          have hl10 : l0_0.length + 1 = (l0_0 ++ [y]).length := by simp
          rw [hl10] at hown10 ⊢
          have HQV := HQR.out
          generalize l0_0 ++ [y] = L at hown10 HQV ⊢
          have HRS := mz HQV
          have LR := mz (R_of_flat_ok (fun k => k = g10) (fun k hk => by simpa [Value.ownBlock] using hk.symm) hown10)
          have nd1 : g1 ≠ g10 := fun e => Boxed.not_row (show Boxed w10 g1 28 _ from L1) (by decide) hown10 (by rw [e]; rfl)
          have nd8 : g8 ≠ g10 := fun e => Boxed.not_row (show Boxed w10 g8 28 _ from L8) (by decide) hown10 (by rw [e]; rfl)
          have nda : ga ≠ g10 := by
            intro e
            rcases hat10 with h | h
            · exact JNE (by rw [h, e])
            · have h1 := (Array.getElem?_eq_some_iff.1 JA).1
              omega
          refine hK.out _ _ ⟨(blk_cell (w := w10) L1 0).trans rfl, (blk_cell (w := w10) LA 0).trans rfl, (blk_cell (w := w10) LA 1).trans rfl, (blk_cell (w := w10) LA 2).trans rfl, (blk_cell (w := w10) LA 3).trans rfl, (blk_cell (w := w10) LA 4).trans rfl, (blk_cell (w := w10) LA 5).trans rfl⟩ ?_
          intro hH10
          have L8A := mz L8
          have L1A := mz L1
          have LAA := mz LA
          have LBA := mz LB
          clear hl10 HQV hK K hown10 hg10 hat10 hlt10 hi hz0 hz1 hz2 e10 L1 L8 LB LA JO JN JB J1 J8 JA JNE
          (try simp only [Act.put, List.getElem_toArray, List.getElem_cons_succ, List.getElem_cons_zero, List.setIfInBounds_toArray, List.set_cons_zero, List.set_cons_succ])
          refine' tI 6 ?_
          refine wpAnyH_ready (rs := [7]) (by kernel_rfl) (by simp) ?_
          refine AllReadyH.cons rfl (fun K hK => ?_) AllReadyH.nil
          go_simp
          go_at_call 19
          refine (impl_goodSeq.calls (fun k => k = g10) (.slice (some ⟨g10, 0, none⟩) L.length c10) L r1 r2 w w10 LBA.out LR.out HRS.out).mono ?_
          rintro e w11 ⟨v11, rfl, hR11, hb11, hk11⟩
          (try dsimp only)
          have M1 : w11.heap[g1]? = _ := (hk11.2 g1 (Array.getElem?_eq_some_iff.1 L1A.out).1 nd1).trans L1A.out
          have M8 : w11.heap[g8]? = _ := (hk11.2 g8 (Array.getElem?_eq_some_iff.1 L8A.out).1 nd8).trans L8A.out
          have MA : w11.heap[ga]? = _ := (hk11.2 ga (Array.getElem?_eq_some_iff.1 LAA.out).1 nda).trans LAA.out
          obtain ⟨A11, c11, rfl⟩ := Kd.R_slice hR11
          refine hK.out _ _ ⟨(blk_cell (w := w11) M1 0).trans rfl, (blk_cell (w := w11) MA 0).trans rfl, (blk_cell (w := w11) MA 1).trans rfl, (blk_cell (w := w11) MA 2).trans rfl, (blk_cell (w := w11) MA 3).trans rfl, (blk_cell (w := w11) MA 4).trans rfl, (blk_cell (w := w11) MA 5).trans rfl⟩ ?_
          intro hH11
          have HR11 := mz hR11
          have HB11 := mz hb11
          clear hK K hR11 hb11 hk11
          (try simp only [Act.put, List.getElem_toArray, List.getElem_cons_succ, List.getElem_cons_zero, List.setIfInBounds_toArray, List.set_cons_zero, List.set_cons_succ])
          refine' tI 8 ?_
          refine' tI 9 ?_
          refine wpAnyH_ready (rs := [10]) (by kernel_rfl) (by simp) ?_
          refine AllReadyH.cons rfl (fun K hK => ?_) AllReadyH.nil
          have c8 : w11.cell? ⟨g8, 0, none⟩ = some (.slice none 0 0) := (blk_cell M8 0).trans rfl
          have f8 := blk_frozen M8 0
          go_simp
          have N1 := blk_far (p := ⟨g8, 0, none⟩) M1 nd18 (.slice A11 r1.length c11)
          have NA := blk_far (p := ⟨g8, 0, none⟩) MA nda8 (.slice A11 r1.length c11)
          refine hK.out _ _ ⟨(blk_cell (w := (w11.setCell ⟨g8, 0, none⟩ (.slice A11 r1.length c11))) N1 0).trans rfl, (blk_cell (w := (w11.setCell ⟨g8, 0, none⟩ (.slice A11 r1.length c11))) NA 0).trans rfl, (blk_cell (w := (w11.setCell ⟨g8, 0, none⟩ (.slice A11 r1.length c11))) NA 1).trans rfl, (blk_cell (w := (w11.setCell ⟨g8, 0, none⟩ (.slice A11 r1.length c11))) NA 2).trans rfl, (blk_cell (w := (w11.setCell ⟨g8, 0, none⟩ (.slice A11 r1.length c11))) NA 3).trans rfl, (blk_cell (w := (w11.setCell ⟨g8, 0, none⟩ (.slice A11 r1.length c11))) NA 4).trans rfl, (blk_cell (w := (w11.setCell ⟨g8, 0, none⟩ (.slice A11 r1.length c11))) NA 5).trans rfl⟩ ?_
          intro hH12
          clear hK K c8 f8
          (try simp only [Act.put, List.getElem_toArray, List.getElem_cons_succ, List.getElem_cons_zero, List.setIfInBounds_toArray, List.set_cons_zero, List.set_cons_succ])
          refine' tI 11 ?_
          refine wpAnyH_done (by kernel_rfl) ?_ _
          go_wp2
          refine bodyPost_ret (results_ct rfl _ _ g8 28 #[.slice A11 r1.length c11] (0, 0) _ rfl (blk_put (cs := #[.slice none 0 0]) M8 0 _ rfl) Try.underlying28 rfl (by kernel_rfl)) rfl ?_
          exact ⟨.slice A11 r1.length c11, rfl, Kd.R_mono (Kd.R_set HR11.out M8 (by decide) 0 _) (fun _ _ => trivial), below_set HB11.out (by have h1 := G4.out; have h2 := HB1.out.size; show w.heap.size ≤ g8; omega)⟩
        · go_simp
          have J1 : (wt.alloc (.cells #[.int .i64 y.f0, .int .i64 y.f1, .int .i64 y.f2, .int .i64 y.f3, .string y.f4, .bool y.f5] 41)).drew.heap[g1]? = _ := (Below.heap_alloc wt _ _ (Array.getElem?_eq_some_iff.1 T1).1).trans T1
          have J8 : (wt.alloc (.cells #[.int .i64 y.f0, .int .i64 y.f1, .int .i64 y.f2, .int .i64 y.f3, .string y.f4, .bool y.f5] 41)).drew.heap[g8]? = _ := (Below.heap_alloc wt _ _ (Array.getElem?_eq_some_iff.1 T8).1).trans T8
          have JA : (wt.alloc (.cells #[.int .i64 y.f0, .int .i64 y.f1, .int .i64 y.f2, .int .i64 y.f3, .string y.f4, .bool y.f5] 41)).drew.heap[ga]? = _ := (Below.heap_alloc wt _ _ (Array.getElem?_eq_some_iff.1 TA).1).trans TA
          have JN : (wt.alloc (.cells #[.int .i64 y.f0, .int .i64 y.f1, .int .i64 y.f2, .int .i64 y.f3, .string y.f4, .bool y.f5] 41)).drew.heap[wt.heap.size]? = _ := World.alloc_heap_new wt (.cells #[.int .i64 y.f0, .int .i64 y.f1, .int .i64 y.f2, .int .i64 y.f3, .string y.f4, .bool y.f5] 41)
          have JB : Below w.heap.size w (wt.alloc (.cells #[.int .i64 y.f0, .int .i64 y.f1, .int .i64 y.f2, .int .i64 y.f3, .string y.f4, .bool y.f5] 41)).drew := below_drew1 (TB.alloc (below_size TB) _)
          refine hK.out _ _ ⟨(blk_cell (w := (wt.alloc (.cells #[.int .i64 y.f0, .int .i64 y.f1, .int .i64 y.f2, .int .i64 y.f3, .string y.f4, .bool y.f5] 41)).drew) J1 0).trans rfl, (blk_cell (w := (wt.alloc (.cells #[.int .i64 y.f0, .int .i64 y.f1, .int .i64 y.f2, .int .i64 y.f3, .string y.f4, .bool y.f5] 41)).drew) JA 0).trans rfl, (blk_cell (w := (wt.alloc (.cells #[.int .i64 y.f0, .int .i64 y.f1, .int .i64 y.f2, .int .i64 y.f3, .string y.f4, .bool y.f5] 41)).drew) JA 1).trans rfl, (blk_cell (w := (wt.alloc (.cells #[.int .i64 y.f0, .int .i64 y.f1, .int .i64 y.f2, .int .i64 y.f3, .string y.f4, .bool y.f5] 41)).drew) JA 2).trans rfl, (blk_cell (w := (wt.alloc (.cells #[.int .i64 y.f0, .int .i64 y.f1, .int .i64 y.f2, .int .i64 y.f3, .string y.f4, .bool y.f5] 41)).drew) JA 3).trans rfl, (blk_cell (w := (wt.alloc (.cells #[.int .i64 y.f0, .int .i64 y.f1, .int .i64 y.f2, .int .i64 y.f3, .string y.f4, .bool y.f5] 41)).drew) JA 4).trans rfl, (blk_cell (w := (wt.alloc (.cells #[.int .i64 y.f0, .int .i64 y.f1, .int .i64 y.f2, .int .i64 y.f3, .string y.f4, .bool y.f5] 41)).drew) JA 5).trans rfl⟩ ?_
          intro _
          clear hK K
          (try simp only [Act.put, List.getElem_toArray, List.getElem_cons_succ, List.getElem_cons_zero, List.setIfInBounds_toArray, List.set_cons_zero, List.set_cons_succ])
          refine wpAnyH_ready (rs := [2]) (by kernel_rfl) (by simp) ?_
          refine AllReadyH.cons rfl (fun K hK => ?_) AllReadyH.nil
          go_simp
          go_at_call 20
          refine (cloneA_own (some ad) c0_0 l0_0 _ (Kd.C_below HR.out JB) HC.out (by omega)).mono ?_
          rintro e w7 ⟨v7, rfl, hown7, hb7⟩
          (try dsimp only)
          have K1 : w7.heap[g1]? = _ := blk_below (w := (wt.alloc (.cells #[.int .i64 y.f0, .int .i64 y.f1, .int .i64 y.f2, .int .i64 y.f3, .string y.f4, .bool y.f5] 41)).drew) J1 hb7
          have K8 : w7.heap[g8]? = _ := blk_below (w := (wt.alloc (.cells #[.int .i64 y.f0, .int .i64 y.f1, .int .i64 y.f2, .int .i64 y.f3, .string y.f4, .bool y.f5] 41)).drew) J8 hb7
          have KA : w7.heap[ga]? = _ := blk_below (w := (wt.alloc (.cells #[.int .i64 y.f0, .int .i64 y.f1, .int .i64 y.f2, .int .i64 y.f3, .string y.f4, .bool y.f5] 41)).drew) JA hb7
          have KB : Below w.heap.size w w7 := below_step JB hb7
          have KO := own_weaken hown7 (below_size JB)
          have hbase7 : ∀ k, v7.ownBlock = some k → wt.heap.size ≤ k := fun k hk => Nat.le_trans (by first | exact Nat.le_refl _ | (show wt.heap.size ≤ (wt.alloc _).heap.size; simp)) (own_base hown7 k hk)
          have KN : w7.heap[wt.heap.size]? = _ := blk_below (w := (wt.alloc (.cells #[.int .i64 y.f0, .int .i64 y.f1, .int .i64 y.f2, .int .i64 y.f3, .string y.f4, .bool y.f5] 41)).drew) JN hb7
          refine hK.out _ _ ⟨(blk_cell (w := w7) K1 0).trans rfl, (blk_cell (w := w7) KA 0).trans rfl, (blk_cell (w := w7) KA 1).trans rfl, (blk_cell (w := w7) KA 2).trans rfl, (blk_cell (w := w7) KA 3).trans rfl, (blk_cell (w := w7) KA 4).trans rfl, (blk_cell (w := w7) KA 5).trans rfl⟩ ?_
          intro _
          clear hK K hown7 hb7
          (try simp only [Act.put, List.getElem_toArray, List.getElem_cons_succ, List.getElem_cons_zero, List.setIfInBounds_toArray, List.set_cons_zero, List.set_cons_succ])
          clear J1 J8 JA JN JB
          have J1 := K1
          have J8 := K8
          have JA := KA
          have JB := KB
          have JN := KN
          have JO := KO
          have JNE : some ga ≠ v7.ownBlock := fun e => by have h1 := hbase7 ga e.symm; have h2 := (Array.getElem?_eq_some_iff.1 TA).1; omega
          clear K1 K8 KA KB KN KO
          refine wpAnyH_ready (rs := [5]) (by kernel_rfl) (by simp) ?_
          refine AllReadyH.cons rfl (fun K hK => ?_) AllReadyH.nil
          obtain ⟨i0, hi, hz0, hz1, hz2⟩ := info_parts info41
          refine step_append_lies _ rfl (.tmp 77) (.tmp 79) 26 rfl w.heap.size 41 i0 (.agg #[.int .i64 0, .int .i64 0, .int .i64 0, .int .i64 0, .string ⟨#[]⟩, .bool false]) 6 56 Try.underlying26 hi hz0 hz1 hz2 rfl (by decide) v7 l0_0.length (l0_0.flatMap cellsA) (by rfl) JO ⟨wt.heap.size, 0, none⟩ 1 1 (cellsA y) (by rfl) rfl (World.news_of_block JN) (by intro u hu; exact cells_one [y] u (by simpa using hu)) (by omega) (by unfold maxLen; omega) (by omega) (below_size JB) _ rfl ?_
          intro g10 c10 w10 hown10 hg10 hat10 hlt10
          have L1 := blk_grown J1 hg10 (Boxed.not_row (show Boxed w7 g1 28 _ from J1) (by decide) JO)
          have L8 := blk_grown J8 hg10 (Boxed.not_row (show Boxed w7 g8 28 _ from J8) (by decide) JO)
          have LB : Below w.heap.size w w10 := JB.grown hg10 (below_size JB) (fun k hk => own_base JO k hk)
          have LA := blk_grown JA hg10 JNE
          have e10 : l0_0.flatMap cellsA ++ cellsA y = (l0_0 ++ [y]).flatMap cellsA := by rw [List.flatMap_append, List.flatMap_cons, List.flatMap_nil, List.append_nil]
          rw [e10] at hown10
          have hl10 : l0_0.length + 1 = (l0_0 ++ [y]).length := by simp
          rw [hl10] at hown10 ⊢
          have HQV := HQR.out
          generalize l0_0 ++ [y] = L at hown10 HQV ⊢
          have HRS := mz HQV
          have LR := mz (R_of_flat_ok (fun k => k = g10) (fun k hk => by simpa [Value.ownBlock] using hk.symm) hown10)
          have nd1 : g1 ≠ g10 := fun e => Boxed.not_row (show Boxed w10 g1 28 _ from L1) (by decide) hown10 (by rw [e]; rfl)
          have nd8 : g8 ≠ g10 := fun e => Boxed.not_row (show Boxed w10 g8 28 _ from L8) (by decide) hown10 (by rw [e]; rfl)
          have nda : ga ≠ g10 := by
            intro e
            rcases hat10 with h | h
            · exact JNE (by rw [h, e])
            · have h1 := (Array.getElem?_eq_some_iff.1 JA).1
              omega
          refine hK.out _ _ ⟨(blk_cell (w := w10) L1 0).trans rfl, (blk_cell (w := w10) LA 0).trans rfl, (blk_cell (w := w10) LA 1).trans rfl, (blk_cell (w := w10) LA 2).trans rfl, (blk_cell (w := w10) LA 3).trans rfl, (blk_cell (w := w10) LA 4).trans rfl, (blk_cell (w := w10) LA 5).trans rfl⟩ ?_
          intro hH10
          have L8A := mz L8
          have L1A := mz L1
          have LAA := mz LA
          have LBA := mz LB
          clear hl10 HQV hK K hown10 hg10 hat10 hlt10 hi hz0 hz1 hz2 e10 L1 L8 LB LA JO JN JB J1 J8 JA JNE
          (try simp only [Act.put, List.getElem_toArray, List.getElem_cons_succ, List.getElem_cons_zero, List.setIfInBounds_toArray, List.set_cons_zero, List.set_cons_succ])
          refine' tI 6 ?_
          refine wpAnyH_ready (rs := [7]) (by kernel_rfl) (by simp) ?_
          refine AllReadyH.cons rfl (fun K hK => ?_) AllReadyH.nil
          go_simp
          go_at_call 19
          refine (impl_goodSeq.calls (fun k => k = g10) (.slice (some ⟨g10, 0, none⟩) L.length c10) L r1 r2 w w10 LBA.out LR.out HRS.out).mono ?_
          rintro e w11 ⟨v11, rfl, hR11, hb11, hk11⟩
          (try dsimp only)
          have M1 : w11.heap[g1]? = _ := (hk11.2 g1 (Array.getElem?_eq_some_iff.1 L1A.out).1 nd1).trans L1A.out
          have M8 : w11.heap[g8]? = _ := (hk11.2 g8 (Array.getElem?_eq_some_iff.1 L8A.out).1 nd8).trans L8A.out
          have MA : w11.heap[ga]? = _ := (hk11.2 ga (Array.getElem?_eq_some_iff.1 LAA.out).1 nda).trans LAA.out
          obtain ⟨A11, c11, rfl⟩ := Kd.R_slice hR11
          refine hK.out _ _ ⟨(blk_cell (w := w11) M1 0).trans rfl, (blk_cell (w := w11) MA 0).trans rfl, (blk_cell (w := w11) MA 1).trans rfl, (blk_cell (w := w11) MA 2).trans rfl, (blk_cell (w := w11) MA 3).trans rfl, (blk_cell (w := w11) MA 4).trans rfl, (blk_cell (w := w11) MA 5).trans rfl⟩ ?_
          intro hH11
          have HR11 := mz hR11
          have HB11 := mz hb11
          clear hK K hR11 hb11 hk11
          (try simp only [Act.put, List.getElem_toArray, List.getElem_cons_succ, List.getElem_cons_zero, List.setIfInBounds_toArray, List.set_cons_zero, List.set_cons_succ])
          refine' tI 8 ?_
          refine' tI 9 ?_
          refine wpAnyH_ready (rs := [10]) (by kernel_rfl) (by simp) ?_
          refine AllReadyH.cons rfl (fun K hK => ?_) AllReadyH.nil
          have c8 : w11.cell? ⟨g8, 0, none⟩ = some (.slice none 0 0) := (blk_cell M8 0).trans rfl
          have f8 := blk_frozen M8 0
          go_simp
          have N1 := blk_far (p := ⟨g8, 0, none⟩) M1 nd18 (.slice A11 r1.length c11)
          have NA := blk_far (p := ⟨g8, 0, none⟩) MA nda8 (.slice A11 r1.length c11)
          refine hK.out _ _ ⟨(blk_cell (w := (w11.setCell ⟨g8, 0, none⟩ (.slice A11 r1.length c11))) N1 0).trans rfl, (blk_cell (w := (w11.setCell ⟨g8, 0, none⟩ (.slice A11 r1.length c11))) NA 0).trans rfl, (blk_cell (w := (w11.setCell ⟨g8, 0, none⟩ (.slice A11 r1.length c11))) NA 1).trans rfl, (blk_cell (w := (w11.setCell ⟨g8, 0, none⟩ (.slice A11 r1.length c11))) NA 2).trans rfl, (blk_cell (w := (w11.setCell ⟨g8, 0, none⟩ (.slice A11 r1.length c11))) NA 3).trans rfl, (blk_cell (w := (w11.setCell ⟨g8, 0, none⟩ (.slice A11 r1.length c11))) NA 4).trans rfl, (blk_cell (w := (w11.setCell ⟨g8, 0, none⟩ (.slice A11 r1.length c11))) NA 5).trans rfl⟩ ?_
          intro hH12
          clear hK K c8 f8
          (try simp only [Act.put, List.getElem_toArray, List.getElem_cons_succ, List.getElem_cons_zero, List.setIfInBounds_toArray, List.set_cons_zero, List.set_cons_succ])
          refine' tI 11 ?_
          refine wpAnyH_done (by kernel_rfl) ?_ _
          go_wp2
          refine bodyPost_ret (results_ct rfl _ _ g8 28 #[.slice A11 r1.length c11] (0, 0) _ rfl (blk_put (cs := #[.slice none 0 0]) M8 0 _ rfl) Try.underlying28 rfl (by kernel_rfl)) rfl ?_
          exact ⟨.slice A11 r1.length c11, rfl, Kd.R_mono (Kd.R_set HR11.out M8 (by decide) 0 _) (fun _ _ => trivial), below_set HB11.out (by have h1 := G4.out; have h2 := HB1.out.size; show w.heap.size ≤ g8; omega)⟩
      · obtain rfl : a2 = 0 := by omega
        by_cases n6 : 0 < l0_0.length
        · have n6z : (0 : Int) < (l0_0.length : Int) := by omega
          have n7 : (0 : Int) ≤ (l0_0.length : Int) - 1 := by omega
          have n8 : (l0_0.length : Int) - 1 < (l0_0.length : Int) := by omega
          have n9 := HT.out.len
          have hpl := (plainA_of ((goodS_of p).2.1 _ (List.getElem_mem (show l0_0.length - 1 < l0_0.length by omega))))
          have hlt : (rd_T41 l0_0 ((l0_0.length : Int) - 1)).f0 = (l0_0[l0_0.length - 1]).f0 := by
            rw [show (l0_0.length : Int) - 1 = ((l0_0.length - 1 : Nat) : Int) by omega, rd_atom l0_0 (l0_0.length - 1) (by omega)]
          have ht1 : 1 ≤ (rd_T41 l0_0 ((l0_0.length : Int) - 1)).f0 := by rw [hlt]; exact hpl.1
          have ht2 : (rd_T41 l0_0 ((l0_0.length : Int) - 1)).f0 ≤ 10000 := by rw [hlt]; exact hpl.2.1
          have H0 := mz h0
          have HG0 := mz p
          have HOB := mz pb
          clear p pb h0 hpl hlt
          generalize hlast : (rd_T41 l0_0 ((l0_0.length : Int) - 1)).f0 = tl at ht1 ht2
          have HLAST := mz hlast
          clear hlast
          go_enter Try.func7, Try.ntmps7
          go_wp2_with (first | ((with_reducible refine gate_dst (N := 4) rfl ?_); refine box_event ?hg (N := 4) ?hd (cs := #[.slice A0_0 l0_0.length c0_0]) (t := 28) ?hr ?_; (case hd => rfl); (case hg => rfl); (case hr => first | (go_simp; done) | (go_simp; rfl)); intro g1 hg w3 hbox hb; have HB1 : Aside0 (Below w.heap.size w w3) := ⟨hb⟩; have BK1 := mz hbox; have G1 := mz hg; have x1 : w3.cell? ⟨g1, 0, none⟩ = some (.slice A0_0 l0_0.length c0_0) := (blk_cell hbox 0).trans rfl; clear hb hbox hg) | ((with_reducible refine gate_dst (N := 8) rfl ?_); refine box_event ?hg (N := 8) ?hd (cs := #[.slice none 0 0]) (t := 28) ?hr ?_; (case hd => rfl); (case hg => rfl); (case hr => first | (go_simp; done) | (go_simp; rfl)); intro g8 hg w4 hbox hb; have HB2 := mz (below_step HB1.out hb); have BK2 := mz (blk_below BK1.out hb); have RK2 := mz hbox; have NE := mz (show g1 ≠ g8 by rw [hg]; exact Nat.ne_of_lt (Array.getElem?_eq_some_iff.1 BK1.out).1); have G4 := mz hg; have x2 : w4.cell? ⟨g1, 0, none⟩ = some (.slice A0_0 l0_0.length c0_0) := (blk_cell BK2.out 0).trans rfl; clear hb hbox hg x1) | (go_at_call 16; (with_reducible refine (impl_GoodSeq.calls A0_0 c0_0 l0_0 true _ (Kd.C_below HR.out HB2.out) HC.out HG.out).mono ?_); rintro e w5 ⟨rfl, hb5⟩; have HB3 := mz (below_step HB2.out hb5); have BK3 := mz (blk_below BK2.out hb5); have RK3 := mz (blk_below RK2.out hb5); have y3 : w5.cell? ⟨g8, 0, none⟩ = some (.slice none 0 0) := (blk_cell RK3.out 0).trans rfl; have z3 := blk_frozen RK3.out 0; clear hb5) | (go_at_call 17; (with_reducible refine (impl_isByte.calls kb a3 true _ HKB.out).mono ?_); rintro e w5b ⟨rfl, hd5⟩; have hb5b := below_drawn0 hd5; have HB3b := mz (below_step HB3.out hb5b); have BK3b := mz (blk_below BK3.out hb5b); have RK3b := mz (blk_below RK3.out hb5b); have y3b : w5b.cell? ⟨g8, 0, none⟩ = some (.slice none 0 0) := (blk_cell RK3b.out 0).trans rfl; have z3b := blk_frozen RK3b.out 0; clear hb5b hd5 y3 z3) | (go_at_call 18; (with_reducible refine (seen_walk l0_0 HT.out g1 A0_0 c0_0 _ BK3b.out (Kd.C_below HR.out HB3b.out) HC.out).mono ?_); rintro e w6 ⟨Ao, co, rfl, hown6, hb6⟩; have HO6 := mz hown6; have HB6 := mz (below_step HB3b.out hb6); have BK6 := mz (blk_below BK3b.out hb6); have RK6 := mz (blk_below RK3b.out hb6); have y6 : w6.cell? ⟨g8, 0, none⟩ = some (.slice none 0 0) := (blk_cell RK6.out 0).trans rfl; have z6 := blk_frozen RK6.out 0; have x6 : w6.cell? ⟨g1, 0, none⟩ = some (.slice A0_0 l0_0.length c0_0) := (blk_cell BK6.out 0).trans rfl; clear hb6 hown6 y3b z3b; have WA := mz ((Below.refl _ w6).alloc (Nat.le_refl _) (.cells #[.int .i64 1, .int .i64 a1, .int .i64 0, .int .i64 0, .string a3, .bool false] 41)); have xa : (w6.alloc (.cells #[.int .i64 1, .int .i64 a1, .int .i64 0, .int .i64 0, .string a3, .bool false] 41)).cell? ⟨g1, 0, none⟩ = some (.slice A0_0 l0_0.length c0_0) := cell_step x6 WA.out; clear x6 y6 z6; obtain ⟨ad, eA, hl0, hl1, hl2, hl3, hl4, hl5⟩ := at_T41 (Kd.C_below (Kd.C_below HR.out HB6.out) WA.out) ((l0_0.length : Int) - 1) (by omega) (by omega); cases eA; rw [HLAST.out] at hl0; have hl0b := hl0; rw [show ((l0_0.length : Int) - 1).toNat = l0_0.length - 1 from by omega] at hl0b; clear hl1 hl2 hl3 hl4 hl5))
          have XB : Below w.heap.size w (w6.alloc (.cells #[.int .i64 (tl + 1), .int .i64 a1, .int .i64 0, .int .i64 0, .string a3, .bool false] 41)) := HB6.out.alloc (below_size HB6.out) _
          have X1 : (w6.alloc (.cells #[.int .i64 (tl + 1), .int .i64 a1, .int .i64 0, .int .i64 0, .string a3, .bool false] 41)).heap[g1]? = _ := (Below.heap_alloc w6 _ _ (Array.getElem?_eq_some_iff.1 BK6.out).1).trans BK6.out
          have X8 : (w6.alloc (.cells #[.int .i64 (tl + 1), .int .i64 a1, .int .i64 0, .int .i64 0, .string a3, .bool false] 41)).heap[g8]? = _ := (Below.heap_alloc w6 _ _ (Array.getElem?_eq_some_iff.1 RK6.out).1).trans RK6.out
          have XA := World.alloc_heap_new w6 (.cells #[.int .i64 (tl + 1), .int .i64 a1, .int .i64 0, .int .i64 0, .string a3, .bool false] 41)
          obtain ⟨y, hy⟩ : ∃ y : Atom, y = ⟨tl + 1, a1, 0, 0, a3, false⟩ := ⟨_, rfl⟩
          have HY : Aside0 (newA l0_0 a1 0 a3 = y) := ⟨by rw [hy]; simp only [newA, if_pos n6, HLAST.out, if_neg (show ¬ (0 : Int) < 0 by omega)]⟩
          have HQR : Aside0 (impl_goodSeq.f (l0_0 ++ [y]) = some (r1, r2)) := ⟨put_res HSZ.out HG0.out (by omega) (by omega) HOB.out (by omega) (by omega) HY.out (by rw [hy]; exact ⟨wf_small (by show 0 ≤ tl + 1; omega) (by show tl + 1 ≤ 100000; omega), wf_small (by show 0 ≤ a1; omega) (by show a1 ≤ 100000; omega), wf_small (Int.le_refl 0) (by show (0 : Int) ≤ 100000; omega), wf_small (Int.le_refl 0) (by show (0 : Int) ≤ 100000; omega), hsz3.out⟩) H0.out⟩
          generalize hwt : w6.alloc (.cells #[.int .i64 (tl + 1), .int .i64 a1, .int .i64 0, .int .i64 0, .string a3, .bool false] 41) = wt at XB X1 X8 XA ⊢
          generalize hga : w6.heap.size = ga at XA ⊢
          have nd18 : g1 ≠ g8 := NE.out
          have nda8 : ga ≠ g8 := by have h1 := (Array.getElem?_eq_some_iff.1 RK6.out).1; omega
          have TB := XB
          have T1 := X1
          have T8 := X8
          have TA : wt.heap[ga]? = some (.cells #[.int .i64 y.f0, .int .i64 y.f1, .int .i64 y.f2, .int .i64 y.f3, .string y.f4, .bool y.f5] 41 (0, 0)) := by rw [hy]; exact XA
          clear XB X1 X8 XA hwt xa hl0 hl0b hy
          have hS : (fun W' : World => W'.cell? ⟨g1, 0, none⟩ = some (.slice (some ad) l0_0.length c0_0) ∧ W'.cell? ⟨ga, 0, none⟩ = some (.int .i64 y.f0) ∧ W'.cell? ⟨ga, 1, none⟩ = some (.int .i64 y.f1) ∧ W'.cell? ⟨ga, 2, none⟩ = some (.int .i64 y.f2) ∧ W'.cell? ⟨ga, 3, none⟩ = some (.int .i64 y.f3) ∧ W'.cell? ⟨ga, 4, none⟩ = some (.string y.f4) ∧ W'.cell? ⟨ga, 5, none⟩ = some (.bool y.f5)) wt.drew := ⟨(blk_cell (w := wt) T1 0).trans rfl, (blk_cell (w := wt) TA 0).trans rfl, (blk_cell (w := wt) TA 1).trans rfl, (blk_cell (w := wt) TA 2).trans rfl, (blk_cell (w := wt) TA 3).trans rfl, (blk_cell (w := wt) TA 4).trans rfl, (blk_cell (w := wt) TA 5).trans rfl⟩
          refine wp_region_held_drew (S := fun W' : World => W'.cell? ⟨g1, 0, none⟩ = some (.slice (some ad) l0_0.length c0_0) ∧ W'.cell? ⟨ga, 0, none⟩ = some (.int .i64 y.f0) ∧ W'.cell? ⟨ga, 1, none⟩ = some (.int .i64 y.f1) ∧ W'.cell? ⟨ga, 2, none⟩ = some (.int .i64 y.f2) ∧ W'.cell? ⟨ga, 3, none⟩ = some (.int .i64 y.f3) ∧ W'.cell? ⟨ga, 4, none⟩ = some (.string y.f4) ∧ W'.cell? ⟨ga, 5, none⟩ = some (.bool y.f5)) rfl hS fun hHeld => ?_
          refine' tI 0 ?_
          refine' tI 1 ?_
          refine' tI 3 ?_
          refine wpAnyH_ready (rs := [2, 4]) (by kernel_rfl) (by simp) ?_
          refine AllReadyH.cons rfl (fun K hK => ?_) (AllReadyH.cons rfl (fun K hK => ?_) AllReadyH.nil)
          · go_simp
            go_at_call 20
            refine (cloneA_own (some ad) c0_0 l0_0 _ (Kd.C_below HR.out (below_drew1 TB)) HC.out (by omega)).mono ?_
            rintro e w7 ⟨v7, rfl, hown7, hb7⟩
            (try dsimp only)
            have K1 : w7.heap[g1]? = _ := blk_below (w := wt.drew) T1 hb7
            have K8 : w7.heap[g8]? = _ := blk_below (w := wt.drew) T8 hb7
            have KA : w7.heap[ga]? = _ := blk_below (w := wt.drew) TA hb7
            have KB : Below w.heap.size w w7 := below_step (below_drew1 TB) hb7
            have KO := own_weaken hown7 (below_size (below_drew1 TB))
            have hbase7 : ∀ k, v7.ownBlock = some k → wt.heap.size ≤ k := fun k hk => Nat.le_trans (by first | exact Nat.le_refl _ | (show wt.heap.size ≤ (wt.alloc _).heap.size; simp)) (own_base hown7 k hk)
            refine hK.out _ _ ⟨(blk_cell (w := w7) K1 0).trans rfl, (blk_cell (w := w7) KA 0).trans rfl, (blk_cell (w := w7) KA 1).trans rfl, (blk_cell (w := w7) KA 2).trans rfl, (blk_cell (w := w7) KA 3).trans rfl, (blk_cell (w := w7) KA 4).trans rfl, (blk_cell (w := w7) KA 5).trans rfl⟩ ?_
            intro _
            clear hK K hown7 hb7
            (try simp only [Act.put, List.getElem_toArray, List.getElem_cons_succ, List.getElem_cons_zero, List.setIfInBounds_toArray, List.set_cons_zero, List.set_cons_succ])
            refine wpAnyH_ready (rs := [4]) (by kernel_rfl) (by simp) ?_
            refine AllReadyH.cons rfl (fun K hK => ?_) AllReadyH.nil
            go_simp
            have J1 : (w7.alloc (.cells #[.int .i64 y.f0, .int .i64 y.f1, .int .i64 y.f2, .int .i64 y.f3, .string y.f4, .bool y.f5] 41)).heap[g1]? = _ := (Below.heap_alloc w7 _ _ (Array.getElem?_eq_some_iff.1 K1).1).trans K1
            have J8 : (w7.alloc (.cells #[.int .i64 y.f0, .int .i64 y.f1, .int .i64 y.f2, .int .i64 y.f3, .string y.f4, .bool y.f5] 41)).heap[g8]? = _ := (Below.heap_alloc w7 _ _ (Array.getElem?_eq_some_iff.1 K8).1).trans K8
            have JA : (w7.alloc (.cells #[.int .i64 y.f0, .int .i64 y.f1, .int .i64 y.f2, .int .i64 y.f3, .string y.f4, .bool y.f5] 41)).heap[ga]? = _ := (Below.heap_alloc w7 _ _ (Array.getElem?_eq_some_iff.1 KA).1).trans KA
            have JN : (w7.alloc (.cells #[.int .i64 y.f0, .int .i64 y.f1, .int .i64 y.f2, .int .i64 y.f3, .string y.f4, .bool y.f5] 41)).heap[w7.heap.size]? = _ := World.alloc_heap_new w7 (.cells #[.int .i64 y.f0, .int .i64 y.f1, .int .i64 y.f2, .int .i64 y.f3, .string y.f4, .bool y.f5] 41)
            have JB : Below w.heap.size w (w7.alloc (.cells #[.int .i64 y.f0, .int .i64 y.f1, .int .i64 y.f2, .int .i64 y.f3, .string y.f4, .bool y.f5] 41)) := KB.alloc (below_size KB) _
            have JO := KO.alloc (.cells #[.int .i64 y.f0, .int .i64 y.f1, .int .i64 y.f2, .int .i64 y.f3, .string y.f4, .bool y.f5] 41)
            have JNE : some ga ≠ v7.ownBlock := fun e => by have := hbase7 ga e.symm; have := (Array.getElem?_eq_some_iff.1 TA).1; omega
            refine hK.out _ _ ⟨(blk_cell (w := (w7.alloc (.cells #[.int .i64 y.f0, .int .i64 y.f1, .int .i64 y.f2, .int .i64 y.f3, .string y.f4, .bool y.f5] 41))) J1 0).trans rfl, (blk_cell (w := (w7.alloc (.cells #[.int .i64 y.f0, .int .i64 y.f1, .int .i64 y.f2, .int .i64 y.f3, .string y.f4, .bool y.f5] 41))) JA 0).trans rfl, (blk_cell (w := (w7.alloc (.cells #[.int .i64 y.f0, .int .i64 y.f1, .int .i64 y.f2, .int .i64 y.f3, .string y.f4, .bool y.f5] 41))) JA 1).trans rfl, (blk_cell (w := (w7.alloc (.cells #[.int .i64 y.f0, .int .i64 y.f1, .int .i64 y.f2, .int .i64 y.f3, .string y.f4, .bool y.f5] 41))) JA 2).trans rfl, (blk_cell (w := (w7.alloc (.cells #[.int .i64 y.f0, .int .i64 y.f1, .int .i64 y.f2, .int .i64 y.f3, .string y.f4, .bool y.f5] 41))) JA 3).trans rfl, (blk_cell (w := (w7.alloc (.cells #[.int .i64 y.f0, .int .i64 y.f1, .int .i64 y.f2, .int .i64 y.f3, .string y.f4, .bool y.f5] 41))) JA 4).trans rfl, (blk_cell (w := (w7.alloc (.cells #[.int .i64 y.f0, .int .i64 y.f1, .int .i64 y.f2, .int .i64 y.f3, .string y.f4, .bool y.f5] 41))) JA 5).trans rfl⟩ ?_
            intro _
            clear hK K
            (try simp only [Act.put, List.getElem_toArray, List.getElem_cons_succ, List.getElem_cons_zero, List.setIfInBounds_toArray, List.set_cons_zero, List.set_cons_succ])
            refine wpAnyH_ready (rs := [5]) (by kernel_rfl) (by simp) ?_
            refine AllReadyH.cons rfl (fun K hK => ?_) AllReadyH.nil
            obtain ⟨i0, hi, hz0, hz1, hz2⟩ := info_parts info41
            refine step_append_lies _ rfl (.tmp 77) (.tmp 79) 26 rfl w.heap.size 41 i0 (.agg #[.int .i64 0, .int .i64 0, .int .i64 0, .int .i64 0, .string ⟨#[]⟩, .bool false]) 6 56 Try.underlying26 hi hz0 hz1 hz2 rfl (by decide) v7 l0_0.length (l0_0.flatMap cellsA) (by rfl) JO ⟨w7.heap.size, 0, none⟩ 1 1 (cellsA y) (by rfl) rfl (World.news_of_block JN) (by intro u hu; exact cells_one [y] u (by simpa using hu)) (by omega) (by unfold maxLen; omega) (by omega) (below_size JB) _ rfl ?_
            intro g10 c10 w10 hown10 hg10 hat10 hlt10
            have L1 := blk_grown J1 hg10 (Boxed.not_row (show Boxed (w7.alloc (.cells #[.int .i64 y.f0, .int .i64 y.f1, .int .i64 y.f2, .int .i64 y.f3, .string y.f4, .bool y.f5] 41)) g1 28 _ from J1) (by decide) JO)
            have L8 := blk_grown J8 hg10 (Boxed.not_row (show Boxed (w7.alloc (.cells #[.int .i64 y.f0, .int .i64 y.f1, .int .i64 y.f2, .int .i64 y.f3, .string y.f4, .bool y.f5] 41)) g8 28 _ from J8) (by decide) JO)
            have LB : Below w.heap.size w w10 := JB.grown hg10 (below_size JB) (fun k hk => own_base JO k hk)
            have LA := blk_grown JA hg10 JNE
            have e10 : l0_0.flatMap cellsA ++ cellsA y = (l0_0 ++ [y]).flatMap cellsA := by rw [List.flatMap_append, List.flatMap_cons, List.flatMap_nil, List.append_nil]
            rw [e10] at hown10
            have hl10 : l0_0.length + 1 = (l0_0 ++ [y]).length := by simp
            rw [hl10] at hown10 ⊢
            have HQV := HQR.out
            generalize l0_0 ++ [y] = L at hown10 HQV ⊢
            have HRS := mz HQV
            have LR := mz (R_of_flat_ok (fun k => k = g10) (fun k hk => by simpa [Value.ownBlock] using hk.symm) hown10)
            have nd1 : g1 ≠ g10 := fun e => Boxed.not_row (show Boxed w10 g1 28 _ from L1) (by decide) hown10 (by rw [e]; rfl)
            have nd8 : g8 ≠ g10 := fun e => Boxed.not_row (show Boxed w10 g8 28 _ from L8) (by decide) hown10 (by rw [e]; rfl)
            have nda : ga ≠ g10 := by
              intro e
              rcases hat10 with h | h
              · exact JNE (by rw [h, e])
              · have h1 := (Array.getElem?_eq_some_iff.1 JA).1
                omega
            refine hK.out _ _ ⟨(blk_cell (w := w10) L1 0).trans rfl, (blk_cell (w := w10) LA 0).trans rfl, (blk_cell (w := w10) LA 1).trans rfl, (blk_cell (w := w10) LA 2).trans rfl, (blk_cell (w := w10) LA 3).trans rfl, (blk_cell (w := w10) LA 4).trans rfl, (blk_cell (w := w10) LA 5).trans rfl⟩ ?_
            intro hH10
            have L8A := mz L8
            have L1A := mz L1
            have LAA := mz LA
            have LBA := mz LB
            clear hl10 HQV hK K hown10 hg10 hat10 hlt10 hi hz0 hz1 hz2 e10 L1 L8 LB LA JO JN JB J1 J8 JA JNE
            (try simp only [Act.put, List.getElem_toArray, List.getElem_cons_succ, List.getElem_cons_zero, List.setIfInBounds_toArray, List.set_cons_zero, List.set_cons_succ])
            refine' tI 6 ?_
            refine wpAnyH_ready (rs := [7]) (by kernel_rfl) (by simp) ?_
            refine AllReadyH.cons rfl (fun K hK => ?_) AllReadyH.nil
            go_simp
            go_at_call 19
            refine (impl_goodSeq.calls (fun k => k = g10) (.slice (some ⟨g10, 0, none⟩) L.length c10) L r1 r2 w w10 LBA.out LR.out HRS.out).mono ?_
            rintro e w11 ⟨v11, rfl, hR11, hb11, hk11⟩
            (try dsimp only)
            have M1 : w11.heap[g1]? = _ := (hk11.2 g1 (Array.getElem?_eq_some_iff.1 L1A.out).1 nd1).trans L1A.out
            have M8 : w11.heap[g8]? = _ := (hk11.2 g8 (Array.getElem?_eq_some_iff.1 L8A.out).1 nd8).trans L8A.out
            have MA : w11.heap[ga]? = _ := (hk11.2 ga (Array.getElem?_eq_some_iff.1 LAA.out).1 nda).trans LAA.out
            obtain ⟨A11, c11, rfl⟩ := Kd.R_slice hR11
            refine hK.out _ _ ⟨(blk_cell (w := w11) M1 0).trans rfl, (blk_cell (w := w11) MA 0).trans rfl, (blk_cell (w := w11) MA 1).trans rfl, (blk_cell (w := w11) MA 2).trans rfl, (blk_cell (w := w11) MA 3).trans rfl, (blk_cell (w := w11) MA 4).trans rfl, (blk_cell (w := w11) MA 5).trans rfl⟩ ?_
            intro hH11
            have HR11 := mz hR11
            have HB11 := mz hb11
            clear hK K hR11 hb11 hk11
            (try simp only [Act.put, List.getElem_toArray, List.getElem_cons_succ, List.getElem_cons_zero, List.setIfInBounds_toArray, List.set_cons_zero, List.set_cons_succ])
            refine' tI 8 ?_
            refine' tI 9 ?_
            refine wpAnyH_ready (rs := [10]) (by kernel_rfl) (by simp) ?_
            refine AllReadyH.cons rfl (fun K hK => ?_) AllReadyH.nil
            have c8 : w11.cell? ⟨g8, 0, none⟩ = some (.slice none 0 0) := (blk_cell M8 0).trans rfl
            have f8 := blk_frozen M8 0
            go_simp
            have N1 := blk_far (p := ⟨g8, 0, none⟩) M1 nd18 (.slice A11 r1.length c11)
            have NA := blk_far (p := ⟨g8, 0, none⟩) MA nda8 (.slice A11 r1.length c11)
            refine hK.out _ _ ⟨(blk_cell (w := (w11.setCell ⟨g8, 0, none⟩ (.slice A11 r1.length c11))) N1 0).trans rfl, (blk_cell (w := (w11.setCell ⟨g8, 0, none⟩ (.slice A11 r1.length c11))) NA 0).trans rfl, (blk_cell (w := (w11.setCell ⟨g8, 0, none⟩ (.slice A11 r1.length c11))) NA 1).trans rfl, (blk_cell (w := (w11.setCell ⟨g8, 0, none⟩ (.slice A11 r1.length c11))) NA 2).trans rfl, (blk_cell (w := (w11.setCell ⟨g8, 0, none⟩ (.slice A11 r1.length c11))) NA 3).trans rfl, (blk_cell (w := (w11.setCell ⟨g8, 0, none⟩ (.slice A11 r1.length c11))) NA 4).trans rfl, (blk_cell (w := (w11.setCell ⟨g8, 0, none⟩ (.slice A11 r1.length c11))) NA 5).trans rfl⟩ ?_
            intro hH12
            clear hK K c8 f8
            (try simp only [Act.put, List.getElem_toArray, List.getElem_cons_succ, List.getElem_cons_zero, List.setIfInBounds_toArray, List.set_cons_zero, List.set_cons_succ])
            refine' tI 11 ?_
            refine wpAnyH_done (by kernel_rfl) ?_ _
            go_wp2
            refine bodyPost_ret (results_ct rfl _ _ g8 28 #[.slice A11 r1.length c11] (0, 0) _ rfl (blk_put (cs := #[.slice none 0 0]) M8 0 _ rfl) Try.underlying28 rfl (by kernel_rfl)) rfl ?_
            exact ⟨.slice A11 r1.length c11, rfl, Kd.R_mono (Kd.R_set HR11.out M8 (by decide) 0 _) (fun _ _ => trivial), below_set HB11.out (by have h1 := G4.out; have h2 := HB1.out.size; show w.heap.size ≤ g8; omega)⟩
          · go_simp
            have J1 : (wt.alloc (.cells #[.int .i64 y.f0, .int .i64 y.f1, .int .i64 y.f2, .int .i64 y.f3, .string y.f4, .bool y.f5] 41)).drew.heap[g1]? = _ := (Below.heap_alloc wt _ _ (Array.getElem?_eq_some_iff.1 T1).1).trans T1
            have J8 : (wt.alloc (.cells #[.int .i64 y.f0, .int .i64 y.f1, .int .i64 y.f2, .int .i64 y.f3, .string y.f4, .bool y.f5] 41)).drew.heap[g8]? = _ := (Below.heap_alloc wt _ _ (Array.getElem?_eq_some_iff.1 T8).1).trans T8
            have JA : (wt.alloc (.cells #[.int .i64 y.f0, .int .i64 y.f1, .int .i64 y.f2, .int .i64 y.f3, .string y.f4, .bool y.f5] 41)).drew.heap[ga]? = _ := (Below.heap_alloc wt _ _ (Array.getElem?_eq_some_iff.1 TA).1).trans TA
            have JN : (wt.alloc (.cells #[.int .i64 y.f0, .int .i64 y.f1, .int .i64 y.f2, .int .i64 y.f3, .string y.f4, .bool y.f5] 41)).drew.heap[wt.heap.size]? = _ := World.alloc_heap_new wt (.cells #[.int .i64 y.f0, .int .i64 y.f1, .int .i64 y.f2, .int .i64 y.f3, .string y.f4, .bool y.f5] 41)
            have JB : Below w.heap.size w (wt.alloc (.cells #[.int .i64 y.f0, .int .i64 y.f1, .int .i64 y.f2, .int .i64 y.f3, .string y.f4, .bool y.f5] 41)).drew := below_drew1 (TB.alloc (below_size TB) _)
            refine hK.out _ _ ⟨(blk_cell (w := (wt.alloc (.cells #[.int .i64 y.f0, .int .i64 y.f1, .int .i64 y.f2, .int .i64 y.f3, .string y.f4, .bool y.f5] 41)).drew) J1 0).trans rfl, (blk_cell (w := (wt.alloc (.cells #[.int .i64 y.f0, .int .i64 y.f1, .int .i64 y.f2, .int .i64 y.f3, .string y.f4, .bool y.f5] 41)).drew) JA 0).trans rfl, (blk_cell (w := (wt.alloc (.cells #[.int .i64 y.f0, .int .i64 y.f1, .int .i64 y.f2, .int .i64 y.f3, .string y.f4, .bool y.f5] 41)).drew) JA 1).trans rfl, (blk_cell (w := (wt.alloc (.cells #[.int .i64 y.f0, .int .i64 y.f1, .int .i64 y.f2, .int .i64 y.f3, .string y.f4, .bool y.f5] 41)).drew) JA 2).trans rfl, (blk_cell (w := (wt.alloc (.cells #[.int .i64 y.f0, .int .i64 y.f1, .int .i64 y.f2, .int .i64 y.f3, .string y.f4, .bool y.f5] 41)).drew) JA 3).trans rfl, (blk_cell (w := (wt.alloc (.cells #[.int .i64 y.f0, .int .i64 y.f1, .int .i64 y.f2, .int .i64 y.f3, .string y.f4, .bool y.f5] 41)).drew) JA 4).trans rfl, (blk_cell (w := (wt.alloc (.cells #[.int .i64 y.f0, .int .i64 y.f1, .int .i64 y.f2, .int .i64 y.f3, .string y.f4, .bool y.f5] 41)).drew) JA 5).trans rfl⟩ ?_
            intro _
            clear hK K
            (try simp only [Act.put, List.getElem_toArray, List.getElem_cons_succ, List.getElem_cons_zero, List.setIfInBounds_toArray, List.set_cons_zero, List.set_cons_succ])
            refine wpAnyH_ready (rs := [2]) (by kernel_rfl) (by simp) ?_
            refine AllReadyH.cons rfl (fun K hK => ?_) AllReadyH.nil
            go_simp
            go_at_call 20
            refine (cloneA_own (some ad) c0_0 l0_0 _ (Kd.C_below HR.out JB) HC.out (by omega)).mono ?_
            rintro e w7 ⟨v7, rfl, hown7, hb7⟩
            (try dsimp only)
            have K1 : w7.heap[g1]? = _ := blk_below (w := (wt.alloc (.cells #[.int .i64 y.f0, .int .i64 y.f1, .int .i64 y.f2, .int .i64 y.f3, .string y.f4, .bool y.f5] 41)).drew) J1 hb7
            have K8 : w7.heap[g8]? = _ := blk_below (w := (wt.alloc (.cells #[.int .i64 y.f0, .int .i64 y.f1, .int .i64 y.f2, .int .i64 y.f3, .string y.f4, .bool y.f5] 41)).drew) J8 hb7
            have KA : w7.heap[ga]? = _ := blk_below (w := (wt.alloc (.cells #[.int .i64 y.f0, .int .i64 y.f1, .int .i64 y.f2, .int .i64 y.f3, .string y.f4, .bool y.f5] 41)).drew) JA hb7
            have KB : Below w.heap.size w w7 := below_step JB hb7
            have KO := own_weaken hown7 (below_size JB)
            have hbase7 : ∀ k, v7.ownBlock = some k → wt.heap.size ≤ k := fun k hk => Nat.le_trans (by first | exact Nat.le_refl _ | (show wt.heap.size ≤ (wt.alloc _).heap.size; simp)) (own_base hown7 k hk)
            have KN : w7.heap[wt.heap.size]? = _ := blk_below (w := (wt.alloc (.cells #[.int .i64 y.f0, .int .i64 y.f1, .int .i64 y.f2, .int .i64 y.f3, .string y.f4, .bool y.f5] 41)).drew) JN hb7
            refine hK.out _ _ ⟨(blk_cell (w := w7) K1 0).trans rfl, (blk_cell (w := w7) KA 0).trans rfl, (blk_cell (w := w7) KA 1).trans rfl, (blk_cell (w := w7) KA 2).trans rfl, (blk_cell (w := w7) KA 3).trans rfl, (blk_cell (w := w7) KA 4).trans rfl, (blk_cell (w := w7) KA 5).trans rfl⟩ ?_
            intro _
            clear hK K hown7 hb7
            (try simp only [Act.put, List.getElem_toArray, List.getElem_cons_succ, List.getElem_cons_zero, List.setIfInBounds_toArray, List.set_cons_zero, List.set_cons_succ])
            clear J1 J8 JA JN JB
            have J1 := K1
            have J8 := K8
            have JA := KA
            have JB := KB
            have JN := KN
            have JO := KO
            have JNE : some ga ≠ v7.ownBlock := fun e => by have h1 := hbase7 ga e.symm; have h2 := (Array.getElem?_eq_some_iff.1 TA).1; omega
            clear K1 K8 KA KB KN KO
            refine wpAnyH_ready (rs := [5]) (by kernel_rfl) (by simp) ?_
            refine AllReadyH.cons rfl (fun K hK => ?_) AllReadyH.nil
            obtain ⟨i0, hi, hz0, hz1, hz2⟩ := info_parts info41
            refine step_append_lies _ rfl (.tmp 77) (.tmp 79) 26 rfl w.heap.size 41 i0 (.agg #[.int .i64 0, .int .i64 0, .int .i64 0, .int .i64 0, .string ⟨#[]⟩, .bool false]) 6 56 Try.underlying26 hi hz0 hz1 hz2 rfl (by decide) v7 l0_0.length (l0_0.flatMap cellsA) (by rfl) JO ⟨wt.heap.size, 0, none⟩ 1 1 (cellsA y) (by rfl) rfl (World.news_of_block JN) (by intro u hu; exact cells_one [y] u (by simpa using hu)) (by omega) (by unfold maxLen; omega) (by omega) (below_size JB) _ rfl ?_
            intro g10 c10 w10 hown10 hg10 hat10 hlt10
            have L1 := blk_grown J1 hg10 (Boxed.not_row (show Boxed w7 g1 28 _ from J1) (by decide) JO)
            have L8 := blk_grown J8 hg10 (Boxed.not_row (show Boxed w7 g8 28 _ from J8) (by decide) JO)
            have LB : Below w.heap.size w w10 := JB.grown hg10 (below_size JB) (fun k hk => own_base JO k hk)
            have LA := blk_grown JA hg10 JNE
            have e10 : l0_0.flatMap cellsA ++ cellsA y = (l0_0 ++ [y]).flatMap cellsA := by rw [List.flatMap_append, List.flatMap_cons, List.flatMap_nil, List.append_nil]
            rw [e10] at hown10
            have hl10 : l0_0.length + 1 = (l0_0 ++ [y]).length := by simp
            rw [hl10] at hown10 ⊢
            have HQV := HQR.out
            generalize l0_0 ++ [y] = L at hown10 HQV ⊢
            have HRS := mz HQV
            have LR := mz (R_of_flat_ok (fun k => k = g10) (fun k hk => by simpa [Value.ownBlock] using hk.symm) hown10)
            have nd1 : g1 ≠ g10 := fun e => Boxed.not_row (show Boxed w10 g1 28 _ from L1) (by decide) hown10 (by rw [e]; rfl)
            have nd8 : g8 ≠ g10 := fun e => Boxed.not_row (show Boxed w10 g8 28 _ from L8) (by decide) hown10 (by rw [e]; rfl)
            have nda : ga ≠ g10 := by
              intro e
              rcases hat10 with h | h
              · exact JNE (by rw [h, e])
              · have h1 := (Array.getElem?_eq_some_iff.1 JA).1
                omega
            refine hK.out _ _ ⟨(blk_cell (w := w10) L1 0).trans rfl, (blk_cell (w := w10) LA 0).trans rfl, (blk_cell (w := w10) LA 1).trans rfl, (blk_cell (w := w10) LA 2).trans rfl, (blk_cell (w := w10) LA 3).trans rfl, (blk_cell (w := w10) LA 4).trans rfl, (blk_cell (w := w10) LA 5).trans rfl⟩ ?_
            intro hH10
            have L8A := mz L8
            have L1A := mz L1
            have LAA := mz LA
            have LBA := mz LB
            clear hl10 HQV hK K hown10 hg10 hat10 hlt10 hi hz0 hz1 hz2 e10 L1 L8 LB LA JO JN JB J1 J8 JA JNE
            (try simp only [Act.put, List.getElem_toArray, List.getElem_cons_succ, List.getElem_cons_zero, List.setIfInBounds_toArray, List.set_cons_zero, List.set_cons_succ])
            refine' tI 6 ?_
            refine wpAnyH_ready (rs := [7]) (by kernel_rfl) (by simp) ?_
            refine AllReadyH.cons rfl (fun K hK => ?_) AllReadyH.nil
            go_simp
            go_at_call 19
            refine (impl_goodSeq.calls (fun k => k = g10) (.slice (some ⟨g10, 0, none⟩) L.length c10) L r1 r2 w w10 LBA.out LR.out HRS.out).mono ?_
            rintro e w11 ⟨v11, rfl, hR11, hb11, hk11⟩
            (try dsimp only)
            have M1 : w11.heap[g1]? = _ := (hk11.2 g1 (Array.getElem?_eq_some_iff.1 L1A.out).1 nd1).trans L1A.out
            have M8 : w11.heap[g8]? = _ := (hk11.2 g8 (Array.getElem?_eq_some_iff.1 L8A.out).1 nd8).trans L8A.out
            have MA : w11.heap[ga]? = _ := (hk11.2 ga (Array.getElem?_eq_some_iff.1 LAA.out).1 nda).trans LAA.out
            obtain ⟨A11, c11, rfl⟩ := Kd.R_slice hR11
            refine hK.out _ _ ⟨(blk_cell (w := w11) M1 0).trans rfl, (blk_cell (w := w11) MA 0).trans rfl, (blk_cell (w := w11) MA 1).trans rfl, (blk_cell (w := w11) MA 2).trans rfl, (blk_cell (w := w11) MA 3).trans rfl, (blk_cell (w := w11) MA 4).trans rfl, (blk_cell (w := w11) MA 5).trans rfl⟩ ?_
            intro hH11
            have HR11 := mz hR11
            have HB11 := mz hb11
            clear hK K hR11 hb11 hk11
            (try simp only [Act.put, List.getElem_toArray, List.getElem_cons_succ, List.getElem_cons_zero, List.setIfInBounds_toArray, List.set_cons_zero, List.set_cons_succ])
            refine' tI 8 ?_
            refine' tI 9 ?_
            refine wpAnyH_ready (rs := [10]) (by kernel_rfl) (by simp) ?_
            refine AllReadyH.cons rfl (fun K hK => ?_) AllReadyH.nil
            have c8 : w11.cell? ⟨g8, 0, none⟩ = some (.slice none 0 0) := (blk_cell M8 0).trans rfl
            have f8 := blk_frozen M8 0
            go_simp
            have N1 := blk_far (p := ⟨g8, 0, none⟩) M1 nd18 (.slice A11 r1.length c11)
            have NA := blk_far (p := ⟨g8, 0, none⟩) MA nda8 (.slice A11 r1.length c11)
            refine hK.out _ _ ⟨(blk_cell (w := (w11.setCell ⟨g8, 0, none⟩ (.slice A11 r1.length c11))) N1 0).trans rfl, (blk_cell (w := (w11.setCell ⟨g8, 0, none⟩ (.slice A11 r1.length c11))) NA 0).trans rfl, (blk_cell (w := (w11.setCell ⟨g8, 0, none⟩ (.slice A11 r1.length c11))) NA 1).trans rfl, (blk_cell (w := (w11.setCell ⟨g8, 0, none⟩ (.slice A11 r1.length c11))) NA 2).trans rfl, (blk_cell (w := (w11.setCell ⟨g8, 0, none⟩ (.slice A11 r1.length c11))) NA 3).trans rfl, (blk_cell (w := (w11.setCell ⟨g8, 0, none⟩ (.slice A11 r1.length c11))) NA 4).trans rfl, (blk_cell (w := (w11.setCell ⟨g8, 0, none⟩ (.slice A11 r1.length c11))) NA 5).trans rfl⟩ ?_
            intro hH12
            clear hK K c8 f8
            (try simp only [Act.put, List.getElem_toArray, List.getElem_cons_succ, List.getElem_cons_zero, List.setIfInBounds_toArray, List.set_cons_zero, List.set_cons_succ])
            refine' tI 11 ?_
            refine wpAnyH_done (by kernel_rfl) ?_ _
            go_wp2
            refine bodyPost_ret (results_ct rfl _ _ g8 28 #[.slice A11 r1.length c11] (0, 0) _ rfl (blk_put (cs := #[.slice none 0 0]) M8 0 _ rfl) Try.underlying28 rfl (by kernel_rfl)) rfl ?_
            exact ⟨.slice A11 r1.length c11, rfl, Kd.R_mono (Kd.R_set HR11.out M8 (by decide) 0 _) (fun _ _ => trivial), below_set HB11.out (by have h1 := G4.out; have h2 := HB1.out.size; show w.heap.size ≤ g8; omega)⟩
        · have n9 := HT.out.len
          have n6z : ¬ (0 : Int) < (l0_0.length : Int) := by omega
          have H0 := mz h0
          have HG0 := mz p
          have HOB := mz pb
          clear p pb h0
          go_enter Try.func7, Try.ntmps7
          go_wp2_with (first | ((with_reducible refine gate_dst (N := 4) rfl ?_); refine box_event ?hg (N := 4) ?hd (cs := #[.slice A0_0 l0_0.length c0_0]) (t := 28) ?hr ?_; (case hd => rfl); (case hg => rfl); (case hr => first | (go_simp; done) | (go_simp; rfl)); intro g1 hg w3 hbox hb; have HB1 : Aside0 (Below w.heap.size w w3) := ⟨hb⟩; have BK1 := mz hbox; have G1 := mz hg; have x1 : w3.cell? ⟨g1, 0, none⟩ = some (.slice A0_0 l0_0.length c0_0) := (blk_cell hbox 0).trans rfl; clear hb hbox hg) | ((with_reducible refine gate_dst (N := 8) rfl ?_); refine box_event ?hg (N := 8) ?hd (cs := #[.slice none 0 0]) (t := 28) ?hr ?_; (case hd => rfl); (case hg => rfl); (case hr => first | (go_simp; done) | (go_simp; rfl)); intro g8 hg w4 hbox hb; have HB2 := mz (below_step HB1.out hb); have BK2 := mz (blk_below BK1.out hb); have RK2 := mz hbox; have NE := mz (show g1 ≠ g8 by rw [hg]; exact Nat.ne_of_lt (Array.getElem?_eq_some_iff.1 BK1.out).1); have G4 := mz hg; have x2 : w4.cell? ⟨g1, 0, none⟩ = some (.slice A0_0 l0_0.length c0_0) := (blk_cell BK2.out 0).trans rfl; clear hb hbox hg x1) | (go_at_call 16; (with_reducible refine (impl_GoodSeq.calls A0_0 c0_0 l0_0 true _ (Kd.C_below HR.out HB2.out) HC.out HG.out).mono ?_); rintro e w5 ⟨rfl, hb5⟩; have HB3 := mz (below_step HB2.out hb5); have BK3 := mz (blk_below BK2.out hb5); have RK3 := mz (blk_below RK2.out hb5); have y3 : w5.cell? ⟨g8, 0, none⟩ = some (.slice none 0 0) := (blk_cell RK3.out 0).trans rfl; have z3 := blk_frozen RK3.out 0; clear hb5) | (go_at_call 17; (with_reducible refine (impl_isByte.calls kb a3 true _ HKB.out).mono ?_); rintro e w5b ⟨rfl, hd5⟩; have hb5b := below_drawn0 hd5; have HB3b := mz (below_step HB3.out hb5b); have BK3b := mz (blk_below BK3.out hb5b); have RK3b := mz (blk_below RK3.out hb5b); have y3b : w5b.cell? ⟨g8, 0, none⟩ = some (.slice none 0 0) := (blk_cell RK3b.out 0).trans rfl; have z3b := blk_frozen RK3b.out 0; clear hb5b hd5 y3 z3) | (go_at_call 18; (with_reducible refine (seen_walk l0_0 HT.out g1 A0_0 c0_0 _ BK3b.out (Kd.C_below HR.out HB3b.out) HC.out).mono ?_); rintro e w6 ⟨Ao, co, rfl, hown6, hb6⟩; have HO6 := mz hown6; have HB6 := mz (below_step HB3b.out hb6); have BK6 := mz (blk_below BK3b.out hb6); have RK6 := mz (blk_below RK3b.out hb6); have y6 : w6.cell? ⟨g8, 0, none⟩ = some (.slice none 0 0) := (blk_cell RK6.out 0).trans rfl; have z6 := blk_frozen RK6.out 0; have x6 : w6.cell? ⟨g1, 0, none⟩ = some (.slice A0_0 l0_0.length c0_0) := (blk_cell BK6.out 0).trans rfl; clear hb6 hown6 y3b z3b; have WA := mz ((Below.refl _ w6).alloc (Nat.le_refl _) (.cells #[.int .i64 1, .int .i64 a1, .int .i64 0, .int .i64 0, .string a3, .bool false] 41)); have xa : (w6.alloc (.cells #[.int .i64 1, .int .i64 a1, .int .i64 0, .int .i64 0, .string a3, .bool false] 41)).cell? ⟨g1, 0, none⟩ = some (.slice A0_0 l0_0.length c0_0) := cell_step x6 WA.out; clear x6 y6 z6))
          have XB : Below w.heap.size w (w6.alloc (.cells #[.int .i64 (1), .int .i64 a1, .int .i64 0, .int .i64 0, .string a3, .bool false] 41)) := HB6.out.alloc (below_size HB6.out) _
          have X1 : (w6.alloc (.cells #[.int .i64 (1), .int .i64 a1, .int .i64 0, .int .i64 0, .string a3, .bool false] 41)).heap[g1]? = _ := (Below.heap_alloc w6 _ _ (Array.getElem?_eq_some_iff.1 BK6.out).1).trans BK6.out
          have X8 : (w6.alloc (.cells #[.int .i64 (1), .int .i64 a1, .int .i64 0, .int .i64 0, .string a3, .bool false] 41)).heap[g8]? = _ := (Below.heap_alloc w6 _ _ (Array.getElem?_eq_some_iff.1 RK6.out).1).trans RK6.out
          have XA := World.alloc_heap_new w6 (.cells #[.int .i64 (1), .int .i64 a1, .int .i64 0, .int .i64 0, .string a3, .bool false] 41)
          obtain ⟨y, hy⟩ : ∃ y : Atom, y = ⟨1, a1, 0, 0, a3, false⟩ := ⟨_, rfl⟩
          have HY : Aside0 (newA l0_0 a1 0 a3 = y) := ⟨by rw [hy]; simp only [newA, if_neg n6, if_neg (show ¬ (0 : Int) < 0 by omega)]⟩
          have HQR : Aside0 (impl_goodSeq.f (l0_0 ++ [y]) = some (r1, r2)) := ⟨put_res HSZ.out HG0.out (by omega) (by omega) HOB.out (by omega) (by omega) HY.out (by rw [hy]; exact ⟨wf_small (by show (0 : Int) ≤ 1; omega) (by show (1 : Int) ≤ 100000; omega), wf_small (by show 0 ≤ a1; omega) (by show a1 ≤ 100000; omega), wf_small (Int.le_refl 0) (by show (0 : Int) ≤ 100000; omega), wf_small (Int.le_refl 0) (by show (0 : Int) ≤ 100000; omega), hsz3.out⟩) H0.out⟩
          generalize hwt : w6.alloc (.cells #[.int .i64 (1), .int .i64 a1, .int .i64 0, .int .i64 0, .string a3, .bool false] 41) = wt at XB X1 X8 XA ⊢
          generalize hga : w6.heap.size = ga at XA ⊢
          have nd18 : g1 ≠ g8 := NE.out
          have nda8 : ga ≠ g8 := by have h1 := (Array.getElem?_eq_some_iff.1 RK6.out).1; omega
          have TB := XB
          have T1 := X1
          have T8 := X8
          have TA : wt.heap[ga]? = some (.cells #[.int .i64 y.f0, .int .i64 y.f1, .int .i64 y.f2, .int .i64 y.f3, .string y.f4, .bool y.f5] 41 (0, 0)) := by rw [hy]; exact XA
          clear XB X1 X8 XA hwt xa hy
          have hS : (fun W' : World => W'.cell? ⟨g1, 0, none⟩ = some (.slice A0_0 l0_0.length c0_0) ∧ W'.cell? ⟨ga, 0, none⟩ = some (.int .i64 y.f0) ∧ W'.cell? ⟨ga, 1, none⟩ = some (.int .i64 y.f1) ∧ W'.cell? ⟨ga, 2, none⟩ = some (.int .i64 y.f2) ∧ W'.cell? ⟨ga, 3, none⟩ = some (.int .i64 y.f3) ∧ W'.cell? ⟨ga, 4, none⟩ = some (.string y.f4) ∧ W'.cell? ⟨ga, 5, none⟩ = some (.bool y.f5)) wt.drew := ⟨(blk_cell (w := wt) T1 0).trans rfl, (blk_cell (w := wt) TA 0).trans rfl, (blk_cell (w := wt) TA 1).trans rfl, (blk_cell (w := wt) TA 2).trans rfl, (blk_cell (w := wt) TA 3).trans rfl, (blk_cell (w := wt) TA 4).trans rfl, (blk_cell (w := wt) TA 5).trans rfl⟩
          refine wp_region_held_drew (S := fun W' : World => W'.cell? ⟨g1, 0, none⟩ = some (.slice A0_0 l0_0.length c0_0) ∧ W'.cell? ⟨ga, 0, none⟩ = some (.int .i64 y.f0) ∧ W'.cell? ⟨ga, 1, none⟩ = some (.int .i64 y.f1) ∧ W'.cell? ⟨ga, 2, none⟩ = some (.int .i64 y.f2) ∧ W'.cell? ⟨ga, 3, none⟩ = some (.int .i64 y.f3) ∧ W'.cell? ⟨ga, 4, none⟩ = some (.string y.f4) ∧ W'.cell? ⟨ga, 5, none⟩ = some (.bool y.f5)) rfl hS fun hHeld => ?_
          refine' tI 0 ?_
          refine' tI 1 ?_
          refine' tI 3 ?_
          refine wpAnyH_ready (rs := [2, 4]) (by kernel_rfl) (by simp) ?_
          refine AllReadyH.cons rfl (fun K hK => ?_) (AllReadyH.cons rfl (fun K hK => ?_) AllReadyH.nil)
          · go_simp
            go_at_call 20
            refine (cloneA_own A0_0 c0_0 l0_0 _ (Kd.C_below HR.out (below_drew1 TB)) HC.out (by omega)).mono ?_
            rintro e w7 ⟨v7, rfl, hown7, hb7⟩
            (try dsimp only)
            have K1 : w7.heap[g1]? = _ := blk_below (w := wt.drew) T1 hb7
            have K8 : w7.heap[g8]? = _ := blk_below (w := wt.drew) T8 hb7
            have KA : w7.heap[ga]? = _ := blk_below (w := wt.drew) TA hb7
            have KB : Below w.heap.size w w7 := below_step (below_drew1 TB) hb7
            have KO := own_weaken hown7 (below_size (below_drew1 TB))
            have hbase7 : ∀ k, v7.ownBlock = some k → wt.heap.size ≤ k := fun k hk => Nat.le_trans (by first | exact Nat.le_refl _ | (show wt.heap.size ≤ (wt.alloc _).heap.size; simp)) (own_base hown7 k hk)
            refine hK.out _ _ ⟨(blk_cell (w := w7) K1 0).trans rfl, (blk_cell (w := w7) KA 0).trans rfl, (blk_cell (w := w7) KA 1).trans rfl, (blk_cell (w := w7) KA 2).trans rfl, (blk_cell (w := w7) KA 3).trans rfl, (blk_cell (w := w7) KA 4).trans rfl, (blk_cell (w := w7) KA 5).trans rfl⟩ ?_
            intro _
            clear hK K hown7 hb7
            (try simp only [Act.put, List.getElem_toArray, List.getElem_cons_succ, List.getElem_cons_zero, List.setIfInBounds_toArray, List.set_cons_zero, List.set_cons_succ])
            refine wpAnyH_ready (rs := [4]) (by kernel_rfl) (by simp) ?_
            refine AllReadyH.cons rfl (fun K hK => ?_) AllReadyH.nil
            go_simp
            have J1 : (w7.alloc (.cells #[.int .i64 y.f0, .int .i64 y.f1, .int .i64 y.f2, .int .i64 y.f3, .string y.f4, .bool y.f5] 41)).heap[g1]? = _ := (Below.heap_alloc w7 _ _ (Array.getElem?_eq_some_iff.1 K1).1).trans K1
            have J8 : (w7.alloc (.cells #[.int .i64 y.f0, .int .i64 y.f1, .int .i64 y.f2, .int .i64 y.f3, .string y.f4, .bool y.f5] 41)).heap[g8]? = _ := (Below.heap_alloc w7 _ _ (Array.getElem?_eq_some_iff.1 K8).1).trans K8
            have JA : (w7.alloc (.cells #[.int .i64 y.f0, .int .i64 y.f1, .int .i64 y.f2, .int .i64 y.f3, .string y.f4, .bool y.f5] 41)).heap[ga]? = _ := (Below.heap_alloc w7 _ _ (Array.getElem?_eq_some_iff.1 KA).1).trans KA
            have JN : (w7.alloc (.cells #[.int .i64 y.f0, .int .i64 y.f1, .int .i64 y.f2, .int .i64 y.f3, .string y.f4, .bool y.f5] 41)).heap[w7.heap.size]? = _ := World.alloc_heap_new w7 (.cells #[.int .i64 y.f0, .int .i64 y.f1, .int .i64 y.f2, .int .i64 y.f3, .string y.f4, .bool y.f5] 41)
            have JB : Below w.heap.size w (w7.alloc (.cells #[.int .i64 y.f0, .int .i64 y.f1, .int .i64 y.f2, .int .i64 y.f3, .string y.f4, .bool y.f5] 41)) := KB.alloc (below_size KB) _
            have JO := KO.alloc (.cells #[.int .i64 y.f0, .int .i64 y.f1, .int .i64 y.f2, .int .i64 y.f3, .string y.f4, .bool y.f5] 41)
            have JNE : some ga ≠ v7.ownBlock := fun e => by have := hbase7 ga e.symm; have := (Array.getElem?_eq_some_iff.1 TA).1; omega
            refine hK.out _ _ ⟨(blk_cell (w := (w7.alloc (.cells #[.int .i64 y.f0, .int .i64 y.f1, .int .i64 y.f2, .int .i64 y.f3, .string y.f4, .bool y.f5] 41))) J1 0).trans rfl, (blk_cell (w := (w7.alloc (.cells #[.int .i64 y.f0, .int .i64 y.f1, .int .i64 y.f2, .int .i64 y.f3, .string y.f4, .bool y.f5] 41))) JA 0).trans rfl, (blk_cell (w := (w7.alloc (.cells #[.int .i64 y.f0, .int .i64 y.f1, .int .i64 y.f2, .int .i64 y.f3, .string y.f4, .bool y.f5] 41))) JA 1).trans rfl, (blk_cell (w := (w7.alloc (.cells #[.int .i64 y.f0, .int .i64 y.f1, .int .i64 y.f2, .int .i64 y.f3, .string y.f4, .bool y.f5] 41))) JA 2).trans rfl, (blk_cell (w := (w7.alloc (.cells #[.int .i64 y.f0, .int .i64 y.f1, .int .i64 y.f2, .int .i64 y.f3, .string y.f4, .bool y.f5] 41))) JA 3).trans rfl, (blk_cell (w := (w7.alloc (.cells #[.int .i64 y.f0, .int .i64 y.f1, .int .i64 y.f2, .int .i64 y.f3, .string y.f4, .bool y.f5] 41))) JA 4).trans rfl, (blk_cell (w := (w7.alloc (.cells #[.int .i64 y.f0, .int .i64 y.f1, .int .i64 y.f2, .int .i64 y.f3, .string y.f4, .bool y.f5] 41))) JA 5).trans rfl⟩ ?_
            intro _
            clear hK K
            (try simp only [Act.put, List.getElem_toArray, List.getElem_cons_succ, List.getElem_cons_zero, List.setIfInBounds_toArray, List.set_cons_zero, List.set_cons_succ])
            refine wpAnyH_ready (rs := [5]) (by kernel_rfl) (by simp) ?_
            refine AllReadyH.cons rfl (fun K hK => ?_) AllReadyH.nil
            obtain ⟨i0, hi, hz0, hz1, hz2⟩ := info_parts info41
            refine step_append_lies _ rfl (.tmp 77) (.tmp 79) 26 rfl w.heap.size 41 i0 (.agg #[.int .i64 0, .int .i64 0, .int .i64 0, .int .i64 0, .string ⟨#[]⟩, .bool false]) 6 56 Try.underlying26 hi hz0 hz1 hz2 rfl (by decide) v7 l0_0.length (l0_0.flatMap cellsA) (by rfl) JO ⟨w7.heap.size, 0, none⟩ 1 1 (cellsA y) (by rfl) rfl (World.news_of_block JN) (by intro u hu; exact cells_one [y] u (by simpa using hu)) (by omega) (by unfold maxLen; omega) (by omega) (below_size JB) _ rfl ?_
            intro g10 c10 w10 hown10 hg10 hat10 hlt10
            have L1 := blk_grown J1 hg10 (Boxed.not_row (show Boxed (w7.alloc (.cells #[.int .i64 y.f0, .int .i64 y.f1, .int .i64 y.f2, .int .i64 y.f3, .string y.f4, .bool y.f5] 41)) g1 28 _ from J1) (by decide) JO)
            have L8 := blk_grown J8 hg10 (Boxed.not_row (show Boxed (w7.alloc (.cells #[.int .i64 y.f0, .int .i64 y.f1, .int .i64 y.f2, .int .i64 y.f3, .string y.f4, .bool y.f5] 41)) g8 28 _ from J8) (by decide) JO)
            have LB : Below w.heap.size w w10 := JB.grown hg10 (below_size JB) (fun k hk => own_base JO k hk)
            have LA := blk_grown JA hg10 JNE
            have e10 : l0_0.flatMap cellsA ++ cellsA y = (l0_0 ++ [y]).flatMap cellsA := by rw [List.flatMap_append, List.flatMap_cons, List.flatMap_nil, List.append_nil]
            rw [e10] at hown10
            have hl10 : l0_0.length + 1 = (l0_0 ++ [y]).length := by simp
            rw [hl10] at hown10 ⊢
            have HQV := HQR.out
            generalize l0_0 ++ [y] = L at hown10 HQV ⊢
            have HRS := mz HQV
            have LR := mz (R_of_flat_ok (fun k => k = g10) (fun k hk => by simpa [Value.ownBlock] using hk.symm) hown10)
            have nd1 : g1 ≠ g10 := fun e => Boxed.not_row (show Boxed w10 g1 28 _ from L1) (by decide) hown10 (by rw [e]; rfl)
            have nd8 : g8 ≠ g10 := fun e => Boxed.not_row (show Boxed w10 g8 28 _ from L8) (by decide) hown10 (by rw [e]; rfl)
            have nda : ga ≠ g10 := by
              intro e
              rcases hat10 with h | h
              · exact JNE (by rw [h, e])
              · have h1 := (Array.getElem?_eq_some_iff.1 JA).1
                omega
            refine hK.out _ _ ⟨(blk_cell (w := w10) L1 0).trans rfl, (blk_cell (w := w10) LA 0).trans rfl, (blk_cell (w := w10) LA 1).trans rfl, (blk_cell (w := w10) LA 2).trans rfl, (blk_cell (w := w10) LA 3).trans rfl, (blk_cell (w := w10) LA 4).trans rfl, (blk_cell (w := w10) LA 5).trans rfl⟩ ?_
            intro hH10
            have L8A := mz L8
            have L1A := mz L1
            have LAA := mz LA
            have LBA := mz LB
            clear hl10 HQV hK K hown10 hg10 hat10 hlt10 hi hz0 hz1 hz2 e10 L1 L8 LB LA JO JN JB J1 J8 JA JNE
            (try simp only [Act.put, List.getElem_toArray, List.getElem_cons_succ, List.getElem_cons_zero, List.setIfInBounds_toArray, List.set_cons_zero, List.set_cons_succ])
            refine' tI 6 ?_
            refine wpAnyH_ready (rs := [7]) (by kernel_rfl) (by simp) ?_
            refine AllReadyH.cons rfl (fun K hK => ?_) AllReadyH.nil
            go_simp
            go_at_call 19
            refine (impl_goodSeq.calls (fun k => k = g10) (.slice (some ⟨g10, 0, none⟩) L.length c10) L r1 r2 w w10 LBA.out LR.out HRS.out).mono ?_
            rintro e w11 ⟨v11, rfl, hR11, hb11, hk11⟩
            (try dsimp only)
            have M1 : w11.heap[g1]? = _ := (hk11.2 g1 (Array.getElem?_eq_some_iff.1 L1A.out).1 nd1).trans L1A.out
            have M8 : w11.heap[g8]? = _ := (hk11.2 g8 (Array.getElem?_eq_some_iff.1 L8A.out).1 nd8).trans L8A.out
            have MA : w11.heap[ga]? = _ := (hk11.2 ga (Array.getElem?_eq_some_iff.1 LAA.out).1 nda).trans LAA.out
            obtain ⟨A11, c11, rfl⟩ := Kd.R_slice hR11
            refine hK.out _ _ ⟨(blk_cell (w := w11) M1 0).trans rfl, (blk_cell (w := w11) MA 0).trans rfl, (blk_cell (w := w11) MA 1).trans rfl, (blk_cell (w := w11) MA 2).trans rfl, (blk_cell (w := w11) MA 3).trans rfl, (blk_cell (w := w11) MA 4).trans rfl, (blk_cell (w := w11) MA 5).trans rfl⟩ ?_
            intro hH11
            have HR11 := mz hR11
            have HB11 := mz hb11
            clear hK K hR11 hb11 hk11
            (try simp only [Act.put, List.getElem_toArray, List.getElem_cons_succ, List.getElem_cons_zero, List.setIfInBounds_toArray, List.set_cons_zero, List.set_cons_succ])
            refine' tI 8 ?_
            refine' tI 9 ?_
            refine wpAnyH_ready (rs := [10]) (by kernel_rfl) (by simp) ?_
            refine AllReadyH.cons rfl (fun K hK => ?_) AllReadyH.nil
            have c8 : w11.cell? ⟨g8, 0, none⟩ = some (.slice none 0 0) := (blk_cell M8 0).trans rfl
            have f8 := blk_frozen M8 0
            go_simp
            have N1 := blk_far (p := ⟨g8, 0, none⟩) M1 nd18 (.slice A11 r1.length c11)
            have NA := blk_far (p := ⟨g8, 0, none⟩) MA nda8 (.slice A11 r1.length c11)
            refine hK.out _ _ ⟨(blk_cell (w := (w11.setCell ⟨g8, 0, none⟩ (.slice A11 r1.length c11))) N1 0).trans rfl, (blk_cell (w := (w11.setCell ⟨g8, 0, none⟩ (.slice A11 r1.length c11))) NA 0).trans rfl, (blk_cell (w := (w11.setCell ⟨g8, 0, none⟩ (.slice A11 r1.length c11))) NA 1).trans rfl, (blk_cell (w := (w11.setCell ⟨g8, 0, none⟩ (.slice A11 r1.length c11))) NA 2).trans rfl, (blk_cell (w := (w11.setCell ⟨g8, 0, none⟩ (.slice A11 r1.length c11))) NA 3).trans rfl, (blk_cell (w := (w11.setCell ⟨g8, 0, none⟩ (.slice A11 r1.length c11))) NA 4).trans rfl, (blk_cell (w := (w11.setCell ⟨g8, 0, none⟩ (.slice A11 r1.length c11))) NA 5).trans rfl⟩ ?_
            intro hH12
            clear hK K c8 f8
            (try simp only [Act.put, List.getElem_toArray, List.getElem_cons_succ, List.getElem_cons_zero, List.setIfInBounds_toArray, List.set_cons_zero, List.set_cons_succ])
            refine' tI 11 ?_
            refine wpAnyH_done (by kernel_rfl) ?_ _
            go_wp2
            refine bodyPost_ret (results_ct rfl _ _ g8 28 #[.slice A11 r1.length c11] (0, 0) _ rfl (blk_put (cs := #[.slice none 0 0]) M8 0 _ rfl) Try.underlying28 rfl (by kernel_rfl)) rfl ?_
            exact ⟨.slice A11 r1.length c11, rfl, Kd.R_mono (Kd.R_set HR11.out M8 (by decide) 0 _) (fun _ _ => trivial), below_set HB11.out (by have h1 := G4.out; have h2 := HB1.out.size; show w.heap.size ≤ g8; omega)⟩
          · go_simp
            have J1 : (wt.alloc (.cells #[.int .i64 y.f0, .int .i64 y.f1, .int .i64 y.f2, .int .i64 y.f3, .string y.f4, .bool y.f5] 41)).drew.heap[g1]? = _ := (Below.heap_alloc wt _ _ (Array.getElem?_eq_some_iff.1 T1).1).trans T1
            have J8 : (wt.alloc (.cells #[.int .i64 y.f0, .int .i64 y.f1, .int .i64 y.f2, .int .i64 y.f3, .string y.f4, .bool y.f5] 41)).drew.heap[g8]? = _ := (Below.heap_alloc wt _ _ (Array.getElem?_eq_some_iff.1 T8).1).trans T8
            have JA : (wt.alloc (.cells #[.int .i64 y.f0, .int .i64 y.f1, .int .i64 y.f2, .int .i64 y.f3, .string y.f4, .bool y.f5] 41)).drew.heap[ga]? = _ := (Below.heap_alloc wt _ _ (Array.getElem?_eq_some_iff.1 TA).1).trans TA
            have JN : (wt.alloc (.cells #[.int .i64 y.f0, .int .i64 y.f1, .int .i64 y.f2, .int .i64 y.f3, .string y.f4, .bool y.f5] 41)).drew.heap[wt.heap.size]? = _ := World.alloc_heap_new wt (.cells #[.int .i64 y.f0, .int .i64 y.f1, .int .i64 y.f2, .int .i64 y.f3, .string y.f4, .bool y.f5] 41)
            have JB : Below w.heap.size w (wt.alloc (.cells #[.int .i64 y.f0, .int .i64 y.f1, .int .i64 y.f2, .int .i64 y.f3, .string y.f4, .bool y.f5] 41)).drew := below_drew1 (TB.alloc (below_size TB) _)
            refine hK.out _ _ ⟨(blk_cell (w := (wt.alloc (.cells #[.int .i64 y.f0, .int .i64 y.f1, .int .i64 y.f2, .int .i64 y.f3, .string y.f4, .bool y.f5] 41)).drew) J1 0).trans rfl, (blk_cell (w := (wt.alloc (.cells #[.int .i64 y.f0, .int .i64 y.f1, .int .i64 y.f2, .int .i64 y.f3, .string y.f4, .bool y.f5] 41)).drew) JA 0).trans rfl, (blk_cell (w := (wt.alloc (.cells #[.int .i64 y.f0, .int .i64 y.f1, .int .i64 y.f2, .int .i64 y.f3, .string y.f4, .bool y.f5] 41)).drew) JA 1).trans rfl, (blk_cell (w := (wt.alloc (.cells #[.int .i64 y.f0, .int .i64 y.f1, .int .i64 y.f2, .int .i64 y.f3, .string y.f4, .bool y.f5] 41)).drew) JA 2).trans rfl, (blk_cell (w := (wt.alloc (.cells #[.int .i64 y.f0, .int .i64 y.f1, .int .i64 y.f2, .int .i64 y.f3, .string y.f4, .bool y.f5] 41)).drew) JA 3).trans rfl, (blk_cell (w := (wt.alloc (.cells #[.int .i64 y.f0, .int .i64 y.f1, .int .i64 y.f2, .int .i64 y.f3, .string y.f4, .bool y.f5] 41)).drew) JA 4).trans rfl, (blk_cell (w := (wt.alloc (.cells #[.int .i64 y.f0, .int .i64 y.f1, .int .i64 y.f2, .int .i64 y.f3, .string y.f4, .bool y.f5] 41)).drew) JA 5).trans rfl⟩ ?_
            intro _
            clear hK K
            (try simp only [Act.put, List.getElem_toArray, List.getElem_cons_succ, List.getElem_cons_zero, List.setIfInBounds_toArray, List.set_cons_zero, List.set_cons_succ])
            refine wpAnyH_ready (rs := [2]) (by kernel_rfl) (by simp) ?_
            refine AllReadyH.cons rfl (fun K hK => ?_) AllReadyH.nil
            go_simp
            go_at_call 20
            refine (cloneA_own A0_0 c0_0 l0_0 _ (Kd.C_below HR.out JB) HC.out (by omega)).mono ?_
            rintro e w7 ⟨v7, rfl, hown7, hb7⟩
            (try dsimp only)
            have K1 : w7.heap[g1]? = _ := blk_below (w := (wt.alloc (.cells #[.int .i64 y.f0, .int .i64 y.f1, .int .i64 y.f2, .int .i64 y.f3, .string y.f4, .bool y.f5] 41)).drew) J1 hb7
            have K8 : w7.heap[g8]? = _ := blk_below (w := (wt.alloc (.cells #[.int .i64 y.f0, .int .i64 y.f1, .int .i64 y.f2, .int .i64 y.f3, .string y.f4, .bool y.f5] 41)).drew) J8 hb7
            have KA : w7.heap[ga]? = _ := blk_below (w := (wt.alloc (.cells #[.int .i64 y.f0, .int .i64 y.f1, .int .i64 y.f2, .int .i64 y.f3, .string y.f4, .bool y.f5] 41)).drew) JA hb7
            have KB : Below w.heap.size w w7 := below_step JB hb7
            have KO := own_weaken hown7 (below_size JB)
            have hbase7 : ∀ k, v7.ownBlock = some k → wt.heap.size ≤ k := fun k hk => Nat.le_trans (by first | exact Nat.le_refl _ | (show wt.heap.size ≤ (wt.alloc _).heap.size; simp)) (own_base hown7 k hk)
            have KN : w7.heap[wt.heap.size]? = _ := blk_below (w := (wt.alloc (.cells #[.int .i64 y.f0, .int .i64 y.f1, .int .i64 y.f2, .int .i64 y.f3, .string y.f4, .bool y.f5] 41)).drew) JN hb7
            refine hK.out _ _ ⟨(blk_cell (w := w7) K1 0).trans rfl, (blk_cell (w := w7) KA 0).trans rfl, (blk_cell (w := w7) KA 1).trans rfl, (blk_cell (w := w7) KA 2).trans rfl, (blk_cell (w := w7) KA 3).trans rfl, (blk_cell (w := w7) KA 4).trans rfl, (blk_cell (w := w7) KA 5).trans rfl⟩ ?_
            intro _
            clear hK K hown7 hb7
            (try simp only [Act.put, List.getElem_toArray, List.getElem_cons_succ, List.getElem_cons_zero, List.setIfInBounds_toArray, List.set_cons_zero, List.set_cons_succ])
            clear J1 J8 JA JN JB
            have J1 := K1
            have J8 := K8
            have JA := KA
            have JB := KB
            have JN := KN
            have JO := KO
            have JNE : some ga ≠ v7.ownBlock := fun e => by have h1 := hbase7 ga e.symm; have h2 := (Array.getElem?_eq_some_iff.1 TA).1; omega
            clear K1 K8 KA KB KN KO
            refine wpAnyH_ready (rs := [5]) (by kernel_rfl) (by simp) ?_
            refine AllReadyH.cons rfl (fun K hK => ?_) AllReadyH.nil
            obtain ⟨i0, hi, hz0, hz1, hz2⟩ := info_parts info41
            refine step_append_lies _ rfl (.tmp 77) (.tmp 79) 26 rfl w.heap.size 41 i0 (.agg #[.int .i64 0, .int .i64 0, .int .i64 0, .int .i64 0, .string ⟨#[]⟩, .bool false]) 6 56 Try.underlying26 hi hz0 hz1 hz2 rfl (by decide) v7 l0_0.length (l0_0.flatMap cellsA) (by rfl) JO ⟨wt.heap.size, 0, none⟩ 1 1 (cellsA y) (by rfl) rfl (World.news_of_block JN) (by intro u hu; exact cells_one [y] u (by simpa using hu)) (by omega) (by unfold maxLen; omega) (by omega) (below_size JB) _ rfl ?_
            intro g10 c10 w10 hown10 hg10 hat10 hlt10
            have L1 := blk_grown J1 hg10 (Boxed.not_row (show Boxed w7 g1 28 _ from J1) (by decide) JO)
            have L8 := blk_grown J8 hg10 (Boxed.not_row (show Boxed w7 g8 28 _ from J8) (by decide) JO)
            have LB : Below w.heap.size w w10 := JB.grown hg10 (below_size JB) (fun k hk => own_base JO k hk)
            have LA := blk_grown JA hg10 JNE
            have e10 : l0_0.flatMap cellsA ++ cellsA y = (l0_0 ++ [y]).flatMap cellsA := by rw [List.flatMap_append, List.flatMap_cons, List.flatMap_nil, List.append_nil]
            rw [e10] at hown10
            have hl10 : l0_0.length + 1 = (l0_0 ++ [y]).length := by simp
            rw [hl10] at hown10 ⊢
            have HQV := HQR.out
            generalize l0_0 ++ [y] = L at hown10 HQV ⊢
            have HRS := mz HQV
            have LR := mz (R_of_flat_ok (fun k => k = g10) (fun k hk => by simpa [Value.ownBlock] using hk.symm) hown10)
            have nd1 : g1 ≠ g10 := fun e => Boxed.not_row (show Boxed w10 g1 28 _ from L1) (by decide) hown10 (by rw [e]; rfl)
            have nd8 : g8 ≠ g10 := fun e => Boxed.not_row (show Boxed w10 g8 28 _ from L8) (by decide) hown10 (by rw [e]; rfl)
            have nda : ga ≠ g10 := by
              intro e
              rcases hat10 with h | h
              · exact JNE (by rw [h, e])
              · have h1 := (Array.getElem?_eq_some_iff.1 JA).1
                omega
            refine hK.out _ _ ⟨(blk_cell (w := w10) L1 0).trans rfl, (blk_cell (w := w10) LA 0).trans rfl, (blk_cell (w := w10) LA 1).trans rfl, (blk_cell (w := w10) LA 2).trans rfl, (blk_cell (w := w10) LA 3).trans rfl, (blk_cell (w := w10) LA 4).trans rfl, (blk_cell (w := w10) LA 5).trans rfl⟩ ?_
            intro hH10
            have L8A := mz L8
            have L1A := mz L1
            have LAA := mz LA
            have LBA := mz LB
            clear hl10 HQV hK K hown10 hg10 hat10 hlt10 hi hz0 hz1 hz2 e10 L1 L8 LB LA JO JN JB J1 J8 JA JNE
            (try simp only [Act.put, List.getElem_toArray, List.getElem_cons_succ, List.getElem_cons_zero, List.setIfInBounds_toArray, List.set_cons_zero, List.set_cons_succ])
            refine' tI 6 ?_
            refine wpAnyH_ready (rs := [7]) (by kernel_rfl) (by simp) ?_
            refine AllReadyH.cons rfl (fun K hK => ?_) AllReadyH.nil
            go_simp
            go_at_call 19
            refine (impl_goodSeq.calls (fun k => k = g10) (.slice (some ⟨g10, 0, none⟩) L.length c10) L r1 r2 w w10 LBA.out LR.out HRS.out).mono ?_
            rintro e w11 ⟨v11, rfl, hR11, hb11, hk11⟩
            (try dsimp only)
            have M1 : w11.heap[g1]? = _ := (hk11.2 g1 (Array.getElem?_eq_some_iff.1 L1A.out).1 nd1).trans L1A.out
            have M8 : w11.heap[g8]? = _ := (hk11.2 g8 (Array.getElem?_eq_some_iff.1 L8A.out).1 nd8).trans L8A.out
            have MA : w11.heap[ga]? = _ := (hk11.2 ga (Array.getElem?_eq_some_iff.1 LAA.out).1 nda).trans LAA.out
            obtain ⟨A11, c11, rfl⟩ := Kd.R_slice hR11
            refine hK.out _ _ ⟨(blk_cell (w := w11) M1 0).trans rfl, (blk_cell (w := w11) MA 0).trans rfl, (blk_cell (w := w11) MA 1).trans rfl, (blk_cell (w := w11) MA 2).trans rfl, (blk_cell (w := w11) MA 3).trans rfl, (blk_cell (w := w11) MA 4).trans rfl, (blk_cell (w := w11) MA 5).trans rfl⟩ ?_
            intro hH11
            have HR11 := mz hR11
            have HB11 := mz hb11
            clear hK K hR11 hb11 hk11
            (try simp only [Act.put, List.getElem_toArray, List.getElem_cons_succ, List.getElem_cons_zero, List.setIfInBounds_toArray, List.set_cons_zero, List.set_cons_succ])
            refine' tI 8 ?_
            refine' tI 9 ?_
            refine wpAnyH_ready (rs := [10]) (by kernel_rfl) (by simp) ?_
            refine AllReadyH.cons rfl (fun K hK => ?_) AllReadyH.nil
            have c8 : w11.cell? ⟨g8, 0, none⟩ = some (.slice none 0 0) := (blk_cell M8 0).trans rfl
            have f8 := blk_frozen M8 0
            go_simp
            have N1 := blk_far (p := ⟨g8, 0, none⟩) M1 nd18 (.slice A11 r1.length c11)
            have NA := blk_far (p := ⟨g8, 0, none⟩) MA nda8 (.slice A11 r1.length c11)
            refine hK.out _ _ ⟨(blk_cell (w := (w11.setCell ⟨g8, 0, none⟩ (.slice A11 r1.length c11))) N1 0).trans rfl, (blk_cell (w := (w11.setCell ⟨g8, 0, none⟩ (.slice A11 r1.length c11))) NA 0).trans rfl, (blk_cell (w := (w11.setCell ⟨g8, 0, none⟩ (.slice A11 r1.length c11))) NA 1).trans rfl, (blk_cell (w := (w11.setCell ⟨g8, 0, none⟩ (.slice A11 r1.length c11))) NA 2).trans rfl, (blk_cell (w := (w11.setCell ⟨g8, 0, none⟩ (.slice A11 r1.length c11))) NA 3).trans rfl, (blk_cell (w := (w11.setCell ⟨g8, 0, none⟩ (.slice A11 r1.length c11))) NA 4).trans rfl, (blk_cell (w := (w11.setCell ⟨g8, 0, none⟩ (.slice A11 r1.length c11))) NA 5).trans rfl⟩ ?_
            intro hH12
            clear hK K c8 f8
            (try simp only [Act.put, List.getElem_toArray, List.getElem_cons_succ, List.getElem_cons_zero, List.setIfInBounds_toArray, List.set_cons_zero, List.set_cons_succ])
            refine' tI 11 ?_
            refine wpAnyH_done (by kernel_rfl) ?_ _
            go_wp2
            refine bodyPost_ret (results_ct rfl _ _ g8 28 #[.slice A11 r1.length c11] (0, 0) _ rfl (blk_put (cs := #[.slice none 0 0]) M8 0 _ rfl) Try.underlying28 rfl (by kernel_rfl)) rfl ?_
            exact ⟨.slice A11 r1.length c11, rfl, Kd.R_mono (Kd.R_set HR11.out M8 (by decide) 0 _) (fun _ _ => trivial), below_set HB11.out (by have h1 := G4.out; have h2 := HB1.out.size; show w.heap.size ≤ g8; omega)⟩
section
attribute [local go_sem] max2_int min2_int max_two min_two max_three min_three max_four min_four
def laws_markText.l0 : Nat → Int → ByteArray → Option (ByteArray)
  | 0, _, _ => none
  | k + 1, x0, x3 => if x0 > 0 then ((some (([(wrap64 (48 + (Int.tmod x0 10))) % 256] : List Int) : List Int)).bind fun y101 => (if (strOfNums y101).size + x3.size ≤ 9223372036854775807 then (laws_markText.l0 k (wrap64 (Int.tdiv x0 10)) ((strOfNums y101) ++ x3)) else (none))) else (if 1 + x3.size ≤ 9223372036854775807 then (some ((⟨#[109]⟩ : ByteArray) ++ x3)) else (none))
def laws_markText.f (k : Nat) (a0 : Int) : Option (ByteArray) := if a0 ≤ 0 then (some (⟨#[109, 48]⟩ : ByteArray)) else (laws_markText.l0 k a0 (⟨#[]⟩ : ByteArray))
set_option maxHeartbeats 8000000 in
set_option maxRecDepth 100000 in
theorem laws_markText.calls (k : Nat) (a0 : Int) (r : ByteArray) (w : World) (h : laws_markText.f k a0 = some r) :
    Calls Try.prog 38 #[.int .i64 a0] w fun e w' => e = .returned (.string r) ∧ Below w.heap.size w w' := by
  have HB := mz (Below.refl w.heap.size w)
  have H : (if a0 ≤ 0 then (some (⟨#[109, 48]⟩ : ByteArray)) else (laws_markText.l0 k a0 (⟨#[]⟩ : ByteArray))) = some r := h
  clear h
  by_cases c2 : a0 ≤ 0
  · rw [if_pos c2] at H
    have c2b0 : decide (a0 ≤ 0) = true := decide_eq_true c2
    clear c2
    obtain rfl := Option.some.inj H
    go_enter Try.func38, Try.ntmps38
    go_wp2
    go_ret
    exact ⟨by first | rfl | (simp [errW_none, errW_some] <;> rfl) | (simp [*, errW_none, errW_some] <;> rfl), by repeat (first | (with_reducible first | exact HB.out | apply below_alloc | apply pw_below_drewN | apply below_drew1) | exact HB.out)⟩
  · rw [if_neg c2] at H
    have c2b0 : decide (a0 ≤ 0) = false := decide_eq_false c2
    clear c2
    have H' := mz H
    clear H
    go_enter Try.func38, Try.ntmps38
    go_wp2
    go_loopg [0, 3] k (fun kq v0 v3 w' => ∃ (x0_1 : Int) (x3_1 : ByteArray), v0 = .int .i64 x0_1 ∧ v3 = .string x3_1 ∧ Aside0 (laws_markText.l0 kq x0_1 x3_1 = some r) ∧ Aside0 (kq ≤ k) ∧ Aside0 (Below w.heap.size w w'))
    case atStart => exact ⟨(a0), ((⟨#[]⟩ : ByteArray)), (by first | rfl | (simp; done) | (simp [*]; done)), (by first | rfl | (simp; done) | (simp [*]; done)), H', ⟨Nat.le_refl _⟩, ⟨by repeat (first | (with_reducible first | exact HB.out | apply below_alloc | apply pw_below_drewN | apply below_drew1) | exact HB.out)⟩⟩
    case round =>
      clear H'
      try clear c2
      try clear c2b0
      try clear p2
      obtain ⟨x0_1, x3_1, rfl, rfl, HA, HK1, HB⟩ := hrel
      cases gk with
      | zero => exact absurd HA.out (by simp [laws_markText.l0])
      | succ k1 =>
        have H := HA.out
        clear HA
        simp only [laws_markText.l0] at H
        by_cases c3 : x0_1 > 0
        · rw [if_pos c3] at H
          have c3b0 : decide (0 < x0_1) = true := decide_eq_true c3
          clear c3
          obtain ⟨y101, hy101⟩ : ∃ y_ : List Int, y_ = (([(wrap64 (48 + (Int.tmod x0_1 10))) % 256] : List Int)) := ⟨_, rfl⟩
          replace H : (if (strOfNums y101).size + x3_1.size ≤ 9223372036854775807 then (laws_markText.l0 k1 (wrap64 (Int.tdiv x0_1 10)) ((strOfNums y101) ++ x3_1)) else (none)) = some r := by first | (rw [hy101]; with_reducible exact H) | (have H2_ := (Option.bind_some _ _).symm.trans H; rw [hy101]; with_reducible exact H2_) | (have H2_ := (Option.bind_some _ _).symm.trans H; with_reducible exact H2_) | with_reducible exact H | (rw [hy101]; exact H) | exact H
          have Ny101 := mz hy101
          clear hy101
          by_cases c4 : (strOfNums y101).size + x3_1.size ≤ 9223372036854775807
          · rw [if_pos c4] at H
            have c4b0 := eq_true c4
            have c4b1 : decide ((strOfNums y101).size + x3_1.size ≤ 9223372036854775807) = true := decide_eq_true c4
            try have c4b2 : (9223372036854775807 < (strOfNums y101).size + x3_1.size) = False := eq_false (Nat.not_lt.2 c4)
            have H' := mz H
            clear H
            go_wp2_with (first | ((with_reducible refine gate_dst (N := 12) rfl ?_); refine Kd.R_lit (Kd.int .u8) _ 5 ?hg (N := 12) ?hd (xs := ([(wrap64 (48 + (Int.tmod x0_1 10))) % 256] : List Int)) (inner := [.int .u8 ((wrap64 (48 + (Int.tmod x0_1 10))) % 256)]) (ok := fun _ => True) (okp := fun _ => True) ?hr ?hp (fun _ hk => hk) trivial (Below.refl _ _) (Nat.le_refl _) (by simp) ?_; (case hd => rfl); (case hg => rfl); (case hr => first | (go_simp; done) | (go_simp; rfl)); (case hp => exact (Reps.one (show Kd.M (Kd.int .u8) _ _ _ ((wrap64 (48 + (Int.tmod x0_1 10))) % 256) [.int .u8 ((wrap64 (48 + (Int.tmod x0_1 10))) % 256)] from rfl) (Reps.none _ _))); intro v102 w5 ho6 hb hg_ hnew_; clear hg_ hnew_; (first | rw [← Ny101.out] at ho6 | (simp only [Int.reduceToNat] at ho6; rw [← Ny101.out] at ho6)); have n0_ := mz (Kd.R_lower ho6 (below_size (by repeat (first | (with_reducible first | exact HB.out | apply below_alloc | apply pw_below_drewN | apply below_drew1) | exact HB.out)))); have n1_ := mz (below_step (by repeat (first | (with_reducible first | exact HB.out | apply below_alloc | apply pw_below_drewN | apply below_drew1) | exact HB.out)) hb); clear HB; have HO103 := n0_; have HB := n1_; clear n0_ n1_; clear hb ho6; have hcv7 := own_string (P := Try.prog) Try.underlying70 Try.underlying5 Try.underlying9 (Kd.own_of_R HO103.out)))
            go_roundg k1
            case measure => have := HK1.out; omega
            case rel => exact ⟨(wrap64 (Int.tdiv x0_1 10)), ((strOfNums y101) ++ x3_1), (by first | rfl | (simp; done) | (simp [*]; done)), (by first | rfl | (simp; done) | (simp [*]; done)), H', ⟨by have := HK1.out; omega⟩, ⟨by repeat (first | (with_reducible first | exact HB.out | apply below_alloc | apply pw_below_drewN | apply below_drew1) | exact HB.out)⟩⟩
          · rw [if_neg c4] at H
            exact absurd H (by simp)
        · rw [if_neg c3] at H
          have c3b0 : decide (0 < x0_1) = false := decide_eq_false c3
          clear c3
          by_cases c8 : 1 + x3_1.size ≤ 9223372036854775807
          · rw [if_pos c8] at H
            have c8b0 := eq_true c8
            have c8b1 : decide (1 + x3_1.size ≤ 9223372036854775807) = true := decide_eq_true c8
            try have c8b2 : (9223372036854775807 < 1 + x3_1.size) = False := eq_false (Nat.not_lt.2 c8)
            obtain rfl := Option.some.inj H
            go_wp2
            go_ret
            exact ⟨by first | rfl | (simp [errW_none, errW_some] <;> rfl) | (simp [*, errW_none, errW_some] <;> rfl), by repeat (first | (with_reducible first | exact HB.out | apply below_alloc | apply pw_below_drewN | apply below_drew1) | exact HB.out)⟩
          · rw [if_neg c8] at H
            exact absurd H (by simp)
end
theorem strOfNums_one (x : Int) : (strOfNums [x]).size = 1 := by simp [strOfNums, ByteArray.size]
theorem markText_loop (m : Nat) : ∀ (n : Int) (acc : ByteArray), n.toNat < m → 0 ≤ n → n + acc.size ≤ 4611686018427387904 → ∃ s, Ev (fun k => laws_markText.l0 k n acc) s := by
  induction m with
  | zero => intro n acc h; omega
  | succ m ih =>
    intro n acc h h0 hb
    by_cases hn : n > 0
    · have e1 : Int.tmod n 10 = n % 10 := Int.tmod_eq_emod_of_nonneg h0
      have e2 : Int.tdiv n 10 = n / 10 := Int.tdiv_eq_ediv_of_nonneg h0
      have hsz : ∀ x : Int, (strOfNums [x] ++ acc).size = 1 + acc.size := fun x => by rw [ByteArray.size_append, strOfNums_one]
      obtain ⟨s, hs⟩ := ih (n / 10) (strOfNums [(wrap64 (48 + (n % 10))) % 256] ++ acc) (by omega) (by omega) (by rw [hsz]; omega)
      refine ⟨s, Ev.succ ?_⟩
      simp only [laws_markText.l0, if_pos hn, Option.bind_some, strOfNums_one, if_pos (show 1 + acc.size ≤ 9223372036854775807 by omega), e1, e2, w64 (show -9223372036854775808 ≤ n / 10 by omega) (by omega)]
      exact hs
    · refine ⟨(⟨#[109]⟩ : ByteArray) ++ acc, Ev.succ ?_⟩
      simp only [laws_markText.l0, if_neg hn, if_pos (show 1 + acc.size ≤ 9223372036854775807 by omega)]
      exact Ev.now _
theorem markText_some (n : Int) (h : n ≤ 4611686018427387904) : ∃ s, Ev (fun k => laws_markText.f k n) s := by
  unfold laws_markText.f
  by_cases hn : n ≤ 0
  · simp only [if_pos hn]; exact ⟨_, Ev.now _⟩
  · simp only [if_neg hn]
    exact markText_loop (n.toNat + 1) n ⟨#[]⟩ (by omega) (by omega) (by show n + 0 ≤ _; omega)
noncomputable def mtext (n : Int) : ByteArray := if h : n ≤ 4611686018427387904 then Classical.choose (markText_some n h) else ByteArray.empty
theorem mtext_ev (n : Int) (h : n ≤ 4611686018427387904) : Ev (fun k => laws_markText.f k n) (mtext n) := by
  unfold mtext
  rw [dif_pos h]
  exact Classical.choose_spec (markText_some n h)
section
attribute [local go_sem] max2_int min2_int max_two min_two max_three min_three max_four min_four
def laws_markAtomS.l0 : Nat → List (S41) → Int → Int → Option (Int × (List (S41)))
  | 0, _, _, _ => none
  | k + 1, x0, x1, x5 => if x5 < (x0.length : Int) then (if 0 ≤ x5 then ((some (x0.set (x5 : Int).toNat (⟨x1, (rd_T41 x0 x5).f1, (rd_T41 x0 x5).f2, (rd_T41 x0 x5).f3, (rd_T41 x0 x5).f4, (rd_T41 x0 x5).f5⟩ : S41) : List (S41))).bind fun y101 => ((some (y101.set (x5 : Int).toNat (⟨(rd_T41 y101 x5).f0, wrap64 (x1 + 1), (rd_T41 y101 x5).f2, (rd_T41 y101 x5).f3, (rd_T41 y101 x5).f4, (rd_T41 y101 x5).f5⟩ : S41) : List (S41))).bind fun y102 => ((some (y102.set (x5 : Int).toNat (⟨(rd_T41 y102 x5).f0, (rd_T41 y102 x5).f1, wrap64 ((wrap64 (x1 + 1)) + 1), (rd_T41 y102 x5).f3, (rd_T41 y102 x5).f4, (rd_T41 y102 x5).f5⟩ : S41) : List (S41))).bind fun y103 => ((some (y103.set (x5 : Int).toNat (⟨(rd_T41 y103 x5).f0, (rd_T41 y103 x5).f1, (rd_T41 y103 x5).f2, wrap64 ((wrap64 ((wrap64 (x1 + 1)) + 1)) + 1), (rd_T41 y103 x5).f4, (rd_T41 y103 x5).f5⟩ : S41) : List (S41))).bind fun y104 => ((laws_markText.f k (wrap64 ((wrap64 ((wrap64 ((wrap64 (x1 + 1)) + 1)) + 1)) + 1))).bind fun t105 => ((some (y104.set (x5 : Int).toNat (⟨(rd_T41 y104 x5).f0, (rd_T41 y104 x5).f1, (rd_T41 y104 x5).f2, (rd_T41 y104 x5).f3, t105, (rd_T41 y104 x5).f5⟩ : S41) : List (S41))).bind fun y106 => (laws_markAtomS.l0 k (y106.set (x5 : Int).toNat (⟨(rd_T41 y106 x5).f0, (rd_T41 y106 x5).f1, (rd_T41 y106 x5).f2, (rd_T41 y106 x5).f3, (rd_T41 y106 x5).f4, ((Int.tmod (wrap64 ((wrap64 ((wrap64 ((wrap64 ((wrap64 (x1 + 1)) + 1)) + 1)) + 1)) + 1)) 3) == 0)⟩ : S41)) (wrap64 ((wrap64 ((wrap64 ((wrap64 ((wrap64 ((wrap64 (x1 + 1)) + 1)) + 1)) + 1)) + 1)) + 1)) (wrap64 (x5 + 1))))))))) else (none)) else (some (x1, x0))
def laws_markAtomS.f (k : Nat) (l0 : List (S41)) (a1 : Int) : Option (Int × (List (S41))) := laws_markAtomS.l0 k l0 a1 0
set_option maxHeartbeats 8000000 in
set_option maxRecDepth 100000 in
theorem laws_markAtomS.calls (k : Nat) (P0_ : Nat → Prop) (u9000_ : Value) (l0 : List (S41)) (a1 : Int) (r1 : Int) (r2 : List (S41)) (w0 w : World) (hB : Below w0.heap.size w0 w) (ho0 : Kd.R k41 41 w w0.heap.size P0_ u9000_ l0) (h : laws_markAtomS.f k l0 a1 = some (r1, r2)) :
    Calls Try.prog 22 #[u9000_, .int .i64 a1] w fun e w' => e = .returned (.int .i64 r1) ∧ Kd.R k41 41 w' w0.heap.size (fun k_ => (P0_ k_ ∨ w.heap.size ≤ k_)) u9000_ r2 ∧ Below w0.heap.size w0 w' ∧ Kept w w' (fun k_ => P0_ k_) := by
  have HO0 := mz (show Kd.R k41 41 w w0.heap.size (fun k_ => (P0_ k_ ∨ w.heap.size ≤ k_)) u9000_ l0 from Kd.R_mono ho0 (fun k_ hk => (.inl hk)))
  have HK := mz (Kept.refl w (fun k_ => P0_ k_))
  have HW0 := mz hB.size
  have HB := mz hB
  clear hB
  have H : (laws_markAtomS.l0 k l0 a1 0) = some (r1, r2) := h
  clear h
  have H' := mz H
  clear H
  go_enter Try.func22, Try.ntmps22
  go_wp2
  go_loopg [1, 5] k (fun kq v1 v5 w' => ∃ (x0_1 : List (S41)) (x1_1 : Int) (x5_1 : Int), v1 = .int .i64 x1_1 ∧ v5 = .int .i64 x5_1 ∧ Aside0 (laws_markAtomS.l0 kq x0_1 x1_1 x5_1 = some (r1, r2)) ∧ Aside0 (kq ≤ k) ∧ Aside0 (Kd.R k41 41 w' w0.heap.size (fun k_ => (P0_ k_ ∨ w.heap.size ≤ k_)) u9000_ x0_1) ∧ Aside0 (Kept w w' (fun k_ => P0_ k_)) ∧ Aside0 (Below w0.heap.size w0 w'))
  case atStart => exact ⟨(l0), (a1), (0), (by first | rfl | (simp; done) | (simp [*]; done)), (by first | rfl | (simp; done) | (simp [*]; done)), H', ⟨Nat.le_refl _⟩, ⟨by (with_reducible repeat (first | apply Kd.R_alloc | apply Kd.R_drewN | apply Kd.R_drew)); exact HO0.out⟩, ⟨by repeat (first | (with_reducible first | exact HK.out | apply Kept.alloc | apply Kept.drewN | apply Kept.drew) | exact HK.out)⟩, ⟨by repeat (first | (with_reducible first | exact HB.out | apply below_alloc | apply pw_below_drewN | apply below_drew1) | exact HB.out)⟩⟩
  case round =>
    clear H'
    try clear c2
    try clear p2
    obtain ⟨x0_1, x1_1, x5_1, rfl, rfl, HA, HK1, HO_0, HK, HB⟩ := hrel
    cases gk with
    | zero => exact absurd HA.out (by simp [laws_markAtomS.l0])
    | succ k1 =>
      have H := HA.out
      clear HA
      simp only [laws_markAtomS.l0] at H
      by_cases c3 : x5_1 < (x0_1.length : Int)
      · rw [if_pos c3] at H
        have c3b0 : decide (x5_1 < (x0_1.length : Int)) = true := decide_eq_true c3
        clear c3
        by_cases c4 : 0 ≤ x5_1
        · rw [if_pos c4] at H
          have c4b0 : decide (0 ≤ x5_1) = true := decide_eq_true c4
          clear c4
          obtain ⟨y101, hy101⟩ : ∃ y_ : List (S41), y_ = (x0_1.set (x5_1 : Int).toNat (⟨x1_1, (rd_T41 x0_1 x5_1).f1, (rd_T41 x0_1 x5_1).f2, (rd_T41 x0_1 x5_1).f3, (rd_T41 x0_1 x5_1).f4, (rd_T41 x0_1 x5_1).f5⟩ : S41)) := ⟨_, rfl⟩
          replace H : ((some (y101.set (x5_1 : Int).toNat (⟨(rd_T41 y101 x5_1).f0, wrap64 (x1_1 + 1), (rd_T41 y101 x5_1).f2, (rd_T41 y101 x5_1).f3, (rd_T41 y101 x5_1).f4, (rd_T41 y101 x5_1).f5⟩ : S41) : List (S41))).bind fun y102 => ((some (y102.set (x5_1 : Int).toNat (⟨(rd_T41 y102 x5_1).f0, (rd_T41 y102 x5_1).f1, wrap64 ((wrap64 (x1_1 + 1)) + 1), (rd_T41 y102 x5_1).f3, (rd_T41 y102 x5_1).f4, (rd_T41 y102 x5_1).f5⟩ : S41) : List (S41))).bind fun y103 => ((some (y103.set (x5_1 : Int).toNat (⟨(rd_T41 y103 x5_1).f0, (rd_T41 y103 x5_1).f1, (rd_T41 y103 x5_1).f2, wrap64 ((wrap64 ((wrap64 (x1_1 + 1)) + 1)) + 1), (rd_T41 y103 x5_1).f4, (rd_T41 y103 x5_1).f5⟩ : S41) : List (S41))).bind fun y104 => ((laws_markText.f k1 (wrap64 ((wrap64 ((wrap64 ((wrap64 (x1_1 + 1)) + 1)) + 1)) + 1))).bind fun t105 => ((some (y104.set (x5_1 : Int).toNat (⟨(rd_T41 y104 x5_1).f0, (rd_T41 y104 x5_1).f1, (rd_T41 y104 x5_1).f2, (rd_T41 y104 x5_1).f3, t105, (rd_T41 y104 x5_1).f5⟩ : S41) : List (S41))).bind fun y106 => (laws_markAtomS.l0 k1 (y106.set (x5_1 : Int).toNat (⟨(rd_T41 y106 x5_1).f0, (rd_T41 y106 x5_1).f1, (rd_T41 y106 x5_1).f2, (rd_T41 y106 x5_1).f3, (rd_T41 y106 x5_1).f4, ((Int.tmod (wrap64 ((wrap64 ((wrap64 ((wrap64 ((wrap64 (x1_1 + 1)) + 1)) + 1)) + 1)) + 1)) 3) == 0)⟩ : S41)) (wrap64 ((wrap64 ((wrap64 ((wrap64 ((wrap64 ((wrap64 (x1_1 + 1)) + 1)) + 1)) + 1)) + 1)) + 1)) (wrap64 (x5_1 + 1)))))))) = some (r1, r2) := by first | (rw [hy101]; with_reducible exact H) | (have H2_ := (Option.bind_some _ _).symm.trans H; rw [hy101]; with_reducible exact H2_) | (have H2_ := (Option.bind_some _ _).symm.trans H; with_reducible exact H2_) | with_reducible exact H | (rw [hy101]; exact H) | exact H
          have Ny101 := mz hy101
          clear hy101
          obtain ⟨y102, hy102⟩ : ∃ y_ : List (S41), y_ = (y101.set (x5_1 : Int).toNat (⟨(rd_T41 y101 x5_1).f0, wrap64 (x1_1 + 1), (rd_T41 y101 x5_1).f2, (rd_T41 y101 x5_1).f3, (rd_T41 y101 x5_1).f4, (rd_T41 y101 x5_1).f5⟩ : S41)) := ⟨_, rfl⟩
          replace H : ((some (y102.set (x5_1 : Int).toNat (⟨(rd_T41 y102 x5_1).f0, (rd_T41 y102 x5_1).f1, wrap64 ((wrap64 (x1_1 + 1)) + 1), (rd_T41 y102 x5_1).f3, (rd_T41 y102 x5_1).f4, (rd_T41 y102 x5_1).f5⟩ : S41) : List (S41))).bind fun y103 => ((some (y103.set (x5_1 : Int).toNat (⟨(rd_T41 y103 x5_1).f0, (rd_T41 y103 x5_1).f1, (rd_T41 y103 x5_1).f2, wrap64 ((wrap64 ((wrap64 (x1_1 + 1)) + 1)) + 1), (rd_T41 y103 x5_1).f4, (rd_T41 y103 x5_1).f5⟩ : S41) : List (S41))).bind fun y104 => ((laws_markText.f k1 (wrap64 ((wrap64 ((wrap64 ((wrap64 (x1_1 + 1)) + 1)) + 1)) + 1))).bind fun t105 => ((some (y104.set (x5_1 : Int).toNat (⟨(rd_T41 y104 x5_1).f0, (rd_T41 y104 x5_1).f1, (rd_T41 y104 x5_1).f2, (rd_T41 y104 x5_1).f3, t105, (rd_T41 y104 x5_1).f5⟩ : S41) : List (S41))).bind fun y106 => (laws_markAtomS.l0 k1 (y106.set (x5_1 : Int).toNat (⟨(rd_T41 y106 x5_1).f0, (rd_T41 y106 x5_1).f1, (rd_T41 y106 x5_1).f2, (rd_T41 y106 x5_1).f3, (rd_T41 y106 x5_1).f4, ((Int.tmod (wrap64 ((wrap64 ((wrap64 ((wrap64 ((wrap64 (x1_1 + 1)) + 1)) + 1)) + 1)) + 1)) 3) == 0)⟩ : S41)) (wrap64 ((wrap64 ((wrap64 ((wrap64 ((wrap64 ((wrap64 (x1_1 + 1)) + 1)) + 1)) + 1)) + 1)) + 1)) (wrap64 (x5_1 + 1))))))) = some (r1, r2) := by first | (rw [hy102]; with_reducible exact H) | (have H2_ := (Option.bind_some _ _).symm.trans H; rw [hy102]; with_reducible exact H2_) | (have H2_ := (Option.bind_some _ _).symm.trans H; with_reducible exact H2_) | with_reducible exact H | (rw [hy102]; exact H) | exact H
          have Ny102 := mz hy102
          clear hy102
          obtain ⟨y103, hy103⟩ : ∃ y_ : List (S41), y_ = (y102.set (x5_1 : Int).toNat (⟨(rd_T41 y102 x5_1).f0, (rd_T41 y102 x5_1).f1, wrap64 ((wrap64 (x1_1 + 1)) + 1), (rd_T41 y102 x5_1).f3, (rd_T41 y102 x5_1).f4, (rd_T41 y102 x5_1).f5⟩ : S41)) := ⟨_, rfl⟩
          replace H : ((some (y103.set (x5_1 : Int).toNat (⟨(rd_T41 y103 x5_1).f0, (rd_T41 y103 x5_1).f1, (rd_T41 y103 x5_1).f2, wrap64 ((wrap64 ((wrap64 (x1_1 + 1)) + 1)) + 1), (rd_T41 y103 x5_1).f4, (rd_T41 y103 x5_1).f5⟩ : S41) : List (S41))).bind fun y104 => ((laws_markText.f k1 (wrap64 ((wrap64 ((wrap64 ((wrap64 (x1_1 + 1)) + 1)) + 1)) + 1))).bind fun t105 => ((some (y104.set (x5_1 : Int).toNat (⟨(rd_T41 y104 x5_1).f0, (rd_T41 y104 x5_1).f1, (rd_T41 y104 x5_1).f2, (rd_T41 y104 x5_1).f3, t105, (rd_T41 y104 x5_1).f5⟩ : S41) : List (S41))).bind fun y106 => (laws_markAtomS.l0 k1 (y106.set (x5_1 : Int).toNat (⟨(rd_T41 y106 x5_1).f0, (rd_T41 y106 x5_1).f1, (rd_T41 y106 x5_1).f2, (rd_T41 y106 x5_1).f3, (rd_T41 y106 x5_1).f4, ((Int.tmod (wrap64 ((wrap64 ((wrap64 ((wrap64 ((wrap64 (x1_1 + 1)) + 1)) + 1)) + 1)) + 1)) 3) == 0)⟩ : S41)) (wrap64 ((wrap64 ((wrap64 ((wrap64 ((wrap64 ((wrap64 (x1_1 + 1)) + 1)) + 1)) + 1)) + 1)) + 1)) (wrap64 (x5_1 + 1)))))) = some (r1, r2) := by first | (rw [hy103]; with_reducible exact H) | (have H2_ := (Option.bind_some _ _).symm.trans H; rw [hy103]; with_reducible exact H2_) | (have H2_ := (Option.bind_some _ _).symm.trans H; with_reducible exact H2_) | with_reducible exact H | (rw [hy103]; exact H) | exact H
          have Ny103 := mz hy103
          clear hy103
          obtain ⟨y104, hy104⟩ : ∃ y_ : List (S41), y_ = (y103.set (x5_1 : Int).toNat (⟨(rd_T41 y103 x5_1).f0, (rd_T41 y103 x5_1).f1, (rd_T41 y103 x5_1).f2, wrap64 ((wrap64 ((wrap64 (x1_1 + 1)) + 1)) + 1), (rd_T41 y103 x5_1).f4, (rd_T41 y103 x5_1).f5⟩ : S41)) := ⟨_, rfl⟩
          replace H : ((laws_markText.f k1 (wrap64 ((wrap64 ((wrap64 ((wrap64 (x1_1 + 1)) + 1)) + 1)) + 1))).bind fun t105 => ((some (y104.set (x5_1 : Int).toNat (⟨(rd_T41 y104 x5_1).f0, (rd_T41 y104 x5_1).f1, (rd_T41 y104 x5_1).f2, (rd_T41 y104 x5_1).f3, t105, (rd_T41 y104 x5_1).f5⟩ : S41) : List (S41))).bind fun y106 => (laws_markAtomS.l0 k1 (y106.set (x5_1 : Int).toNat (⟨(rd_T41 y106 x5_1).f0, (rd_T41 y106 x5_1).f1, (rd_T41 y106 x5_1).f2, (rd_T41 y106 x5_1).f3, (rd_T41 y106 x5_1).f4, ((Int.tmod (wrap64 ((wrap64 ((wrap64 ((wrap64 ((wrap64 (x1_1 + 1)) + 1)) + 1)) + 1)) + 1)) 3) == 0)⟩ : S41)) (wrap64 ((wrap64 ((wrap64 ((wrap64 ((wrap64 ((wrap64 (x1_1 + 1)) + 1)) + 1)) + 1)) + 1)) + 1)) (wrap64 (x5_1 + 1))))) = some (r1, r2) := by first | (rw [hy104]; with_reducible exact H) | (have H2_ := (Option.bind_some _ _).symm.trans H; rw [hy104]; with_reducible exact H2_) | (have H2_ := (Option.bind_some _ _).symm.trans H; with_reducible exact H2_) | with_reducible exact H | (rw [hy104]; exact H) | exact H
          have Ny104 := mz hy104
          clear hy104
          replace H := be0_ H
          obtain ⟨t105, A90, H⟩ := H
          replace H : ((some (y104.set (x5_1 : Int).toNat (⟨(rd_T41 y104 x5_1).f0, (rd_T41 y104 x5_1).f1, (rd_T41 y104 x5_1).f2, (rd_T41 y104 x5_1).f3, t105, (rd_T41 y104 x5_1).f5⟩ : S41) : List (S41))).bind fun y106 => (laws_markAtomS.l0 k1 (y106.set (x5_1 : Int).toNat (⟨(rd_T41 y106 x5_1).f0, (rd_T41 y106 x5_1).f1, (rd_T41 y106 x5_1).f2, (rd_T41 y106 x5_1).f3, (rd_T41 y106 x5_1).f4, ((Int.tmod (wrap64 ((wrap64 ((wrap64 ((wrap64 ((wrap64 (x1_1 + 1)) + 1)) + 1)) + 1)) + 1)) 3) == 0)⟩ : S41)) (wrap64 ((wrap64 ((wrap64 ((wrap64 ((wrap64 ((wrap64 (x1_1 + 1)) + 1)) + 1)) + 1)) + 1)) + 1)) (wrap64 (x5_1 + 1)))) = some (r1, r2) := H
          have A9 := mz A90
          clear A90
          obtain ⟨y106, hy106⟩ : ∃ y_ : List (S41), y_ = (y104.set (x5_1 : Int).toNat (⟨(rd_T41 y104 x5_1).f0, (rd_T41 y104 x5_1).f1, (rd_T41 y104 x5_1).f2, (rd_T41 y104 x5_1).f3, t105, (rd_T41 y104 x5_1).f5⟩ : S41)) := ⟨_, rfl⟩
          replace H : (laws_markAtomS.l0 k1 (y106.set (x5_1 : Int).toNat (⟨(rd_T41 y106 x5_1).f0, (rd_T41 y106 x5_1).f1, (rd_T41 y106 x5_1).f2, (rd_T41 y106 x5_1).f3, (rd_T41 y106 x5_1).f4, ((Int.tmod (wrap64 ((wrap64 ((wrap64 ((wrap64 ((wrap64 (x1_1 + 1)) + 1)) + 1)) + 1)) + 1)) 3) == 0)⟩ : S41)) (wrap64 ((wrap64 ((wrap64 ((wrap64 ((wrap64 ((wrap64 (x1_1 + 1)) + 1)) + 1)) + 1)) + 1)) + 1)) (wrap64 (x5_1 + 1))) = some (r1, r2) := by first | (rw [hy106]; with_reducible exact H) | (have H2_ := (Option.bind_some _ _).symm.trans H; rw [hy106]; with_reducible exact H2_) | (have H2_ := (Option.bind_some _ _).symm.trans H; with_reducible exact H2_) | with_reducible exact H | (rw [hy106]; exact H) | exact H
          have Ny106 := mz hy106
          clear hy106
          obtain ⟨y107, hy107⟩ : ∃ y_ : List (S41), y_ = (y106.set (x5_1 : Int).toNat (⟨(rd_T41 y106 x5_1).f0, (rd_T41 y106 x5_1).f1, (rd_T41 y106 x5_1).f2, (rd_T41 y106 x5_1).f3, (rd_T41 y106 x5_1).f4, ((Int.tmod (wrap64 ((wrap64 ((wrap64 ((wrap64 ((wrap64 (x1_1 + 1)) + 1)) + 1)) + 1)) + 1)) 3) == 0)⟩ : S41)) := ⟨_, rfl⟩
          replace H : (laws_markAtomS.l0 k1 y107 (wrap64 ((wrap64 ((wrap64 ((wrap64 ((wrap64 ((wrap64 (x1_1 + 1)) + 1)) + 1)) + 1)) + 1)) + 1)) (wrap64 (x5_1 + 1))) = some (r1, r2) := by first | (rw [hy107]; with_reducible exact H) | (have H2_ := (Option.bind_some _ _).symm.trans H; rw [hy107]; with_reducible exact H2_) | (have H2_ := (Option.bind_some _ _).symm.trans H; with_reducible exact H2_) | with_reducible exact H | (rw [hy107]; exact H) | exact H
          have Ny107 := mz hy107
          clear hy107
          have H' := mz H
          clear H
          obtain ⟨Ao12, co12, eo12⟩ := Kd.R_slice HO_0.out
          subst eo12
          have p5 : 0 ≤ (x5_1 : Int) := of_decide_eq_true (by first | (with_reducible assumption) | assumption)
          have q5 : (x5_1 : Int) < ((x0_1.length : Int) : Int) := of_decide_eq_true (by first | (with_reducible assumption) | assumption)
          obtain ⟨go5, co5, eo5, gb5, gl5, cl5, HG5⟩ := Kd.R_form HO_0.out (by omega)
          (first | cases eo5 | (injection eo5 with ea_ en_ ec_; (first | subst ea_ | (injection ea_ with ea_; subst ea_)); subst ec_; clear en_))
          have GB5 := mz gb5
          have GG5 := mz HG5
          clear gb5 gl5 HG5
          have HMgo5 := mz (show (P0_ go5 ∨ w.heap.size ≤ go5) from (HO_0.out.1 _ rfl))
          obtain ⟨ce5, hcl5, hM5, hcc5, hfr5⟩ := Kd.R_elem HO_0.out z41 (x5_1 : Int) p5 q5
          obtain rfl := k41_openM hM5
          have hx5_0 : wr.cell? ⟨go5, (x5_1 : Int).toNat * 6, none⟩ = some (.int .i64 ((rd_T41 x0_1 x5_1).f0)) := hcc5 0 _ rfl
          have hx5_1 : wr.cell? ⟨go5, (x5_1 : Int).toNat * 6 + 1, none⟩ = some (.int .i64 ((rd_T41 x0_1 x5_1).f1)) := hcc5 1 _ rfl
          have hx5_2 : wr.cell? ⟨go5, (x5_1 : Int).toNat * 6 + 2, none⟩ = some (.int .i64 ((rd_T41 x0_1 x5_1).f2)) := hcc5 2 _ rfl
          have hx5_3 : wr.cell? ⟨go5, (x5_1 : Int).toNat * 6 + 3, none⟩ = some (.int .i64 ((rd_T41 x0_1 x5_1).f3)) := hcc5 3 _ rfl
          have hx5_4 : wr.cell? ⟨go5, (x5_1 : Int).toNat * 6 + 4, none⟩ = some (.string ((rd_T41 x0_1 x5_1).f4)) := hcc5 4 _ rfl
          have hx5_5 : wr.cell? ⟨go5, (x5_1 : Int).toNat * 6 + 5, none⟩ = some (.bool ((rd_T41 x0_1 x5_1).f5)) := hcc5 5 _ rfl
          have hf5_0 : wr.frozen? ⟨go5, (x5_1 : Int).toNat * 6, none⟩ = false := hfr5 0
          have hf5_1 : wr.frozen? ⟨go5, (x5_1 : Int).toNat * 6 + 1, none⟩ = false := hfr5 1
          have hf5_2 : wr.frozen? ⟨go5, (x5_1 : Int).toNat * 6 + 2, none⟩ = false := hfr5 2
          have hf5_3 : wr.frozen? ⟨go5, (x5_1 : Int).toNat * 6 + 3, none⟩ = false := hfr5 3
          have hf5_4 : wr.frozen? ⟨go5, (x5_1 : Int).toNat * 6 + 4, none⟩ = false := hfr5 4
          have hf5_5 : wr.frozen? ⟨go5, (x5_1 : Int).toNat * 6 + 5, none⟩ = false := hfr5 5
          clear hcl5 hcc5 hfr5 hM5
          replace p5 := eq_true p5
          replace q5 := eq_true q5
          have HX13 := mz (show Kd.R k41 41 wr w0.heap.size (fun k_ => (P0_ k_ ∨ w.heap.size ≤ k_)) (.slice (some ⟨go5, 0, none⟩) x0_1.length co12) x0_1 from (by (with_reducible repeat (first | apply Kd.R_alloc | apply Kd.R_drewN | apply Kd.R_drew)); exact HO_0.out))
          obtain ⟨ce13, hcl13, hM13, hcc13, hfr13⟩ := Kd.R_elem HX13.out z41 (x5_1 : Int) (of_decide_eq_true (by first | (with_reducible assumption) | assumption)) (by have h_ : (x5_1 : Int) < ((x0_1.length : Int) : Int) := of_decide_eq_true (by first | (with_reducible assumption) | assumption); first | exact h_ | (have e_ := (Kd.R_reads' HO_0.out).1; omega) | simpa using h_)
          obtain rfl := k41_openM hM13
          have HP13 := Kd.R_seg HX13.out (x5_1 : Int) (of_decide_eq_true (by first | (with_reducible assumption) | assumption)) (by have h_ : (x5_1 : Int) < ((x0_1.length : Int) : Int) := of_decide_eq_true (by first | (with_reducible assumption) | assumption); first | exact h_ | (have e_ := (Kd.R_reads' HO_0.out).1; omega) | simpa using h_) (seg := [.int .i64 x1_1]) (j := 0) hcl13 hcc13 (show 1 ≤ 6 from by decide) (x' := (⟨x1_1, (rd_T41 x0_1 x5_1).f1, (rd_T41 x0_1 x5_1).f2, (rd_T41 x0_1 x5_1).f3, (rd_T41 x0_1 x5_1).f4, (rd_T41 x0_1 x5_1).f5⟩ : S41)) (k41_mkM _ _ _ (⟨x1_1, (rd_T41 x0_1 x5_1).f1, (rd_T41 x0_1 x5_1).f2, (rd_T41 x0_1 x5_1).f3, (rd_T41 x0_1 x5_1).f4, (rd_T41 x0_1 x5_1).f5⟩ : S41) ) (fun _ hk => hk)
          have hx13_0 := hcc13 0 _ rfl
          (try simp only [show (k41).sz = 6 from rfl, Nat.mul_one, Nat.add_zero] at hx13_0)
          have hf13_0 := hfr13 0
          (try simp only [show (k41).sz = 6 from rfl, Nat.mul_one, Nat.add_zero] at hf13_0)
          clear hcl13 hcc13 hfr13 hM13
          go_wp2_with (first | ((with_reducible refine gate_store (t := 3) (p := 16) rfl ?_); refine store_event (t := 3) (p := 16) (v := ?vo_w14) (w1 := (wr.setCell ⟨go5, (x5_1 : Int).toNat * 6, none⟩ (.int .i64 x1_1))) ?hg ?ho ?hn ?hr ?_; (case ho => rfl); (case hg => rfl); (case hn => rfl); (case hr => first | (go_simp; done) | (go_simp; rfl)); intro w14 hw; have hg : wr.grownBy w14 (some go5) := (by rw [hw]; exact HP13.2); have hp_ : Kd.R k41 41 w14 w0.heap.size (fun k_ => (P0_ k_ ∨ w.heap.size ≤ k_)) (.slice (some ⟨go5, 0, none⟩) x0_1.length co12) y101 := (by rw [hw, Ny101.out]; exact HP13.1); clear HP13; have n0_ := mz (hp_); have n1_ := mz ((by rw [hw]; exact below_set (HB.out) GB5.out : Below w0.heap.size w0 w14)); have n2_ := mz (Kept.of_grown (S := (fun k_ => P0_ k_)) hg (by repeat (first | (with_reducible first | exact HK.out | apply Kept.alloc | apply Kept.drewN | apply Kept.drew) | exact HK.out)) (fun k_ e_ => (HO_0.out.1 k_ e_))); clear HO_0; clear HB; clear HK; have HO_0 := n0_; have HB := n1_; have HK := n2_; clear n0_ n1_ n2_; clear hg hw hp_; have p6 : 0 ≤ (x5_1 : Int) := of_decide_eq_true (by first | (with_reducible assumption) | assumption); have q6 : (x5_1 : Int) < ((x0_1.length : Int) : Int) := of_decide_eq_true (by first | (with_reducible assumption) | assumption); obtain ⟨ce6, hcl6, hM6, hcc6, hfr6⟩ := Kd.R_elem HO_0.out z41 (x5_1 : Int) p6 q6; obtain rfl := k41_openM hM6; have hx6_0 : w14.cell? ⟨go5, (x5_1 : Int).toNat * 6, none⟩ = some (.int .i64 ((rd_T41 y101 x5_1).f0)) := hcc6 0 _ rfl; have hx6_1 : w14.cell? ⟨go5, (x5_1 : Int).toNat * 6 + 1, none⟩ = some (.int .i64 ((rd_T41 y101 x5_1).f1)) := hcc6 1 _ rfl; have hx6_2 : w14.cell? ⟨go5, (x5_1 : Int).toNat * 6 + 2, none⟩ = some (.int .i64 ((rd_T41 y101 x5_1).f2)) := hcc6 2 _ rfl; have hx6_3 : w14.cell? ⟨go5, (x5_1 : Int).toNat * 6 + 3, none⟩ = some (.int .i64 ((rd_T41 y101 x5_1).f3)) := hcc6 3 _ rfl; have hx6_4 : w14.cell? ⟨go5, (x5_1 : Int).toNat * 6 + 4, none⟩ = some (.string ((rd_T41 y101 x5_1).f4)) := hcc6 4 _ rfl; have hx6_5 : w14.cell? ⟨go5, (x5_1 : Int).toNat * 6 + 5, none⟩ = some (.bool ((rd_T41 y101 x5_1).f5)) := hcc6 5 _ rfl; have hf6_0 : w14.frozen? ⟨go5, (x5_1 : Int).toNat * 6, none⟩ = false := hfr6 0; have hf6_1 : w14.frozen? ⟨go5, (x5_1 : Int).toNat * 6 + 1, none⟩ = false := hfr6 1; have hf6_2 : w14.frozen? ⟨go5, (x5_1 : Int).toNat * 6 + 2, none⟩ = false := hfr6 2; have hf6_3 : w14.frozen? ⟨go5, (x5_1 : Int).toNat * 6 + 3, none⟩ = false := hfr6 3; have hf6_4 : w14.frozen? ⟨go5, (x5_1 : Int).toNat * 6 + 4, none⟩ = false := hfr6 4; have hf6_5 : w14.frozen? ⟨go5, (x5_1 : Int).toNat * 6 + 5, none⟩ = false := hfr6 5; clear hcl6 hcc6 hfr6 hM6; replace p6 := eq_true p6; replace q6 := eq_true q6; have HX15 := mz (show Kd.R k41 41 w14 w0.heap.size (fun k_ => (P0_ k_ ∨ w.heap.size ≤ k_)) (.slice (some ⟨go5, 0, none⟩) x0_1.length co12) y101 from (by (with_reducible repeat (first | apply Kd.R_alloc | apply Kd.R_drewN | apply Kd.R_drew)); exact HO_0.out)); obtain ⟨ce15, hcl15, hM15, hcc15, hfr15⟩ := Kd.R_elem HX15.out z41 (x5_1 : Int) (of_decide_eq_true (by first | (with_reducible assumption) | assumption)) (by have h_ : (x5_1 : Int) < ((x0_1.length : Int) : Int) := of_decide_eq_true (by first | (with_reducible assumption) | assumption); first | exact h_ | (have e_ := (Kd.R_reads' HO_0.out).1; omega) | simpa using h_); obtain rfl := k41_openM hM15; have HP15 := Kd.R_seg HX15.out (x5_1 : Int) (of_decide_eq_true (by first | (with_reducible assumption) | assumption)) (by have h_ : (x5_1 : Int) < ((x0_1.length : Int) : Int) := of_decide_eq_true (by first | (with_reducible assumption) | assumption); first | exact h_ | (have e_ := (Kd.R_reads' HO_0.out).1; omega) | simpa using h_) (seg := [.int .i64 (wrap64 (x1_1 + 1))]) (j := 1) hcl15 hcc15 (show 2 ≤ 6 from by decide) (x' := (⟨(rd_T41 y101 x5_1).f0, wrap64 (x1_1 + 1), (rd_T41 y101 x5_1).f2, (rd_T41 y101 x5_1).f3, (rd_T41 y101 x5_1).f4, (rd_T41 y101 x5_1).f5⟩ : S41)) (k41_mkM _ _ _ (⟨(rd_T41 y101 x5_1).f0, wrap64 (x1_1 + 1), (rd_T41 y101 x5_1).f2, (rd_T41 y101 x5_1).f3, (rd_T41 y101 x5_1).f4, (rd_T41 y101 x5_1).f5⟩ : S41) ) (fun _ hk => hk); have hx15_1 := hcc15 1 _ rfl; (try simp only [show (k41).sz = 6 from rfl, Nat.mul_one, Nat.add_zero] at hx15_1); have hf15_1 := hfr15 1; (try simp only [show (k41).sz = 6 from rfl, Nat.mul_one, Nat.add_zero] at hf15_1); clear hcl15 hcc15 hfr15 hM15) | ((with_reducible refine gate_store (t := 3) (p := 23) rfl ?_); refine store_event (t := 3) (p := 23) (v := ?vo_w16) (w1 := (w14.setCell ⟨go5, (x5_1 : Int).toNat * 6 + 1, none⟩ (.int .i64 (wrap64 (x1_1 + 1))))) ?hg ?ho ?hn ?hr ?_; (case ho => rfl); (case hg => rfl); (case hn => rfl); (case hr => first | (go_simp; done) | (go_simp; rfl)); intro w16 hw; have hg : w14.grownBy w16 (some go5) := (by rw [hw]; exact HP15.2); have hp_ : Kd.R k41 41 w16 w0.heap.size (fun k_ => (P0_ k_ ∨ w.heap.size ≤ k_)) (.slice (some ⟨go5, 0, none⟩) x0_1.length co12) y102 := (by rw [hw, Ny102.out]; exact HP15.1); clear HP15; have n0_ := mz (hp_); have n1_ := mz ((by rw [hw]; exact below_set (HB.out) GB5.out : Below w0.heap.size w0 w16)); have n2_ := mz (Kept.of_grown (S := (fun k_ => P0_ k_)) hg (by repeat (first | (with_reducible first | exact HK.out | apply Kept.alloc | apply Kept.drewN | apply Kept.drew) | exact HK.out)) (fun k_ e_ => (HO_0.out.1 k_ e_))); clear HO_0; clear HB; clear HK; have HO_0 := n0_; have HB := n1_; have HK := n2_; clear n0_ n1_ n2_; clear hg hw hp_; have p7 : 0 ≤ (x5_1 : Int) := of_decide_eq_true (by first | (with_reducible assumption) | assumption); have q7 : (x5_1 : Int) < ((x0_1.length : Int) : Int) := of_decide_eq_true (by first | (with_reducible assumption) | assumption); obtain ⟨ce7, hcl7, hM7, hcc7, hfr7⟩ := Kd.R_elem HO_0.out z41 (x5_1 : Int) p7 q7; obtain rfl := k41_openM hM7; have hx7_0 : w16.cell? ⟨go5, (x5_1 : Int).toNat * 6, none⟩ = some (.int .i64 ((rd_T41 y102 x5_1).f0)) := hcc7 0 _ rfl; have hx7_1 : w16.cell? ⟨go5, (x5_1 : Int).toNat * 6 + 1, none⟩ = some (.int .i64 ((rd_T41 y102 x5_1).f1)) := hcc7 1 _ rfl; have hx7_2 : w16.cell? ⟨go5, (x5_1 : Int).toNat * 6 + 2, none⟩ = some (.int .i64 ((rd_T41 y102 x5_1).f2)) := hcc7 2 _ rfl; have hx7_3 : w16.cell? ⟨go5, (x5_1 : Int).toNat * 6 + 3, none⟩ = some (.int .i64 ((rd_T41 y102 x5_1).f3)) := hcc7 3 _ rfl; have hx7_4 : w16.cell? ⟨go5, (x5_1 : Int).toNat * 6 + 4, none⟩ = some (.string ((rd_T41 y102 x5_1).f4)) := hcc7 4 _ rfl; have hx7_5 : w16.cell? ⟨go5, (x5_1 : Int).toNat * 6 + 5, none⟩ = some (.bool ((rd_T41 y102 x5_1).f5)) := hcc7 5 _ rfl; have hf7_0 : w16.frozen? ⟨go5, (x5_1 : Int).toNat * 6, none⟩ = false := hfr7 0; have hf7_1 : w16.frozen? ⟨go5, (x5_1 : Int).toNat * 6 + 1, none⟩ = false := hfr7 1; have hf7_2 : w16.frozen? ⟨go5, (x5_1 : Int).toNat * 6 + 2, none⟩ = false := hfr7 2; have hf7_3 : w16.frozen? ⟨go5, (x5_1 : Int).toNat * 6 + 3, none⟩ = false := hfr7 3; have hf7_4 : w16.frozen? ⟨go5, (x5_1 : Int).toNat * 6 + 4, none⟩ = false := hfr7 4; have hf7_5 : w16.frozen? ⟨go5, (x5_1 : Int).toNat * 6 + 5, none⟩ = false := hfr7 5; clear hcl7 hcc7 hfr7 hM7; replace p7 := eq_true p7; replace q7 := eq_true q7; have HX17 := mz (show Kd.R k41 41 w16 w0.heap.size (fun k_ => (P0_ k_ ∨ w.heap.size ≤ k_)) (.slice (some ⟨go5, 0, none⟩) x0_1.length co12) y102 from (by (with_reducible repeat (first | apply Kd.R_alloc | apply Kd.R_drewN | apply Kd.R_drew)); exact HO_0.out)); obtain ⟨ce17, hcl17, hM17, hcc17, hfr17⟩ := Kd.R_elem HX17.out z41 (x5_1 : Int) (of_decide_eq_true (by first | (with_reducible assumption) | assumption)) (by have h_ : (x5_1 : Int) < ((x0_1.length : Int) : Int) := of_decide_eq_true (by first | (with_reducible assumption) | assumption); first | exact h_ | (have e_ := (Kd.R_reads' HO_0.out).1; omega) | simpa using h_); obtain rfl := k41_openM hM17; have HP17 := Kd.R_seg HX17.out (x5_1 : Int) (of_decide_eq_true (by first | (with_reducible assumption) | assumption)) (by have h_ : (x5_1 : Int) < ((x0_1.length : Int) : Int) := of_decide_eq_true (by first | (with_reducible assumption) | assumption); first | exact h_ | (have e_ := (Kd.R_reads' HO_0.out).1; omega) | simpa using h_) (seg := [.int .i64 (wrap64 ((wrap64 (x1_1 + 1)) + 1))]) (j := 2) hcl17 hcc17 (show 3 ≤ 6 from by decide) (x' := (⟨(rd_T41 y102 x5_1).f0, (rd_T41 y102 x5_1).f1, wrap64 ((wrap64 (x1_1 + 1)) + 1), (rd_T41 y102 x5_1).f3, (rd_T41 y102 x5_1).f4, (rd_T41 y102 x5_1).f5⟩ : S41)) (k41_mkM _ _ _ (⟨(rd_T41 y102 x5_1).f0, (rd_T41 y102 x5_1).f1, wrap64 ((wrap64 (x1_1 + 1)) + 1), (rd_T41 y102 x5_1).f3, (rd_T41 y102 x5_1).f4, (rd_T41 y102 x5_1).f5⟩ : S41) ) (fun _ hk => hk); have hx17_2 := hcc17 2 _ rfl; (try simp only [show (k41).sz = 6 from rfl, Nat.mul_one, Nat.add_zero] at hx17_2); have hf17_2 := hfr17 2; (try simp only [show (k41).sz = 6 from rfl, Nat.mul_one, Nat.add_zero] at hf17_2); clear hcl17 hcc17 hfr17 hM17) | ((with_reducible refine gate_store (t := 3) (p := 30) rfl ?_); refine store_event (t := 3) (p := 30) (v := ?vo_w18) (w1 := (w16.setCell ⟨go5, (x5_1 : Int).toNat * 6 + 2, none⟩ (.int .i64 (wrap64 ((wrap64 (x1_1 + 1)) + 1))))) ?hg ?ho ?hn ?hr ?_; (case ho => rfl); (case hg => rfl); (case hn => rfl); (case hr => first | (go_simp; done) | (go_simp; rfl)); intro w18 hw; have hg : w16.grownBy w18 (some go5) := (by rw [hw]; exact HP17.2); have hp_ : Kd.R k41 41 w18 w0.heap.size (fun k_ => (P0_ k_ ∨ w.heap.size ≤ k_)) (.slice (some ⟨go5, 0, none⟩) x0_1.length co12) y103 := (by rw [hw, Ny103.out]; exact HP17.1); clear HP17; have n0_ := mz (hp_); have n1_ := mz ((by rw [hw]; exact below_set (HB.out) GB5.out : Below w0.heap.size w0 w18)); have n2_ := mz (Kept.of_grown (S := (fun k_ => P0_ k_)) hg (by repeat (first | (with_reducible first | exact HK.out | apply Kept.alloc | apply Kept.drewN | apply Kept.drew) | exact HK.out)) (fun k_ e_ => (HO_0.out.1 k_ e_))); clear HO_0; clear HB; clear HK; have HO_0 := n0_; have HB := n1_; have HK := n2_; clear n0_ n1_ n2_; clear hg hw hp_; have p8 : 0 ≤ (x5_1 : Int) := of_decide_eq_true (by first | (with_reducible assumption) | assumption); have q8 : (x5_1 : Int) < ((x0_1.length : Int) : Int) := of_decide_eq_true (by first | (with_reducible assumption) | assumption); obtain ⟨ce8, hcl8, hM8, hcc8, hfr8⟩ := Kd.R_elem HO_0.out z41 (x5_1 : Int) p8 q8; obtain rfl := k41_openM hM8; have hx8_0 : w18.cell? ⟨go5, (x5_1 : Int).toNat * 6, none⟩ = some (.int .i64 ((rd_T41 y103 x5_1).f0)) := hcc8 0 _ rfl; have hx8_1 : w18.cell? ⟨go5, (x5_1 : Int).toNat * 6 + 1, none⟩ = some (.int .i64 ((rd_T41 y103 x5_1).f1)) := hcc8 1 _ rfl; have hx8_2 : w18.cell? ⟨go5, (x5_1 : Int).toNat * 6 + 2, none⟩ = some (.int .i64 ((rd_T41 y103 x5_1).f2)) := hcc8 2 _ rfl; have hx8_3 : w18.cell? ⟨go5, (x5_1 : Int).toNat * 6 + 3, none⟩ = some (.int .i64 ((rd_T41 y103 x5_1).f3)) := hcc8 3 _ rfl; have hx8_4 : w18.cell? ⟨go5, (x5_1 : Int).toNat * 6 + 4, none⟩ = some (.string ((rd_T41 y103 x5_1).f4)) := hcc8 4 _ rfl; have hx8_5 : w18.cell? ⟨go5, (x5_1 : Int).toNat * 6 + 5, none⟩ = some (.bool ((rd_T41 y103 x5_1).f5)) := hcc8 5 _ rfl; have hf8_0 : w18.frozen? ⟨go5, (x5_1 : Int).toNat * 6, none⟩ = false := hfr8 0; have hf8_1 : w18.frozen? ⟨go5, (x5_1 : Int).toNat * 6 + 1, none⟩ = false := hfr8 1; have hf8_2 : w18.frozen? ⟨go5, (x5_1 : Int).toNat * 6 + 2, none⟩ = false := hfr8 2; have hf8_3 : w18.frozen? ⟨go5, (x5_1 : Int).toNat * 6 + 3, none⟩ = false := hfr8 3; have hf8_4 : w18.frozen? ⟨go5, (x5_1 : Int).toNat * 6 + 4, none⟩ = false := hfr8 4; have hf8_5 : w18.frozen? ⟨go5, (x5_1 : Int).toNat * 6 + 5, none⟩ = false := hfr8 5; clear hcl8 hcc8 hfr8 hM8; replace p8 := eq_true p8; replace q8 := eq_true q8; have HX19 := mz (show Kd.R k41 41 w18 w0.heap.size (fun k_ => (P0_ k_ ∨ w.heap.size ≤ k_)) (.slice (some ⟨go5, 0, none⟩) x0_1.length co12) y103 from (by (with_reducible repeat (first | apply Kd.R_alloc | apply Kd.R_drewN | apply Kd.R_drew)); exact HO_0.out)); obtain ⟨ce19, hcl19, hM19, hcc19, hfr19⟩ := Kd.R_elem HX19.out z41 (x5_1 : Int) (of_decide_eq_true (by first | (with_reducible assumption) | assumption)) (by have h_ : (x5_1 : Int) < ((x0_1.length : Int) : Int) := of_decide_eq_true (by first | (with_reducible assumption) | assumption); first | exact h_ | (have e_ := (Kd.R_reads' HO_0.out).1; omega) | simpa using h_); obtain rfl := k41_openM hM19; have HP19 := Kd.R_seg HX19.out (x5_1 : Int) (of_decide_eq_true (by first | (with_reducible assumption) | assumption)) (by have h_ : (x5_1 : Int) < ((x0_1.length : Int) : Int) := of_decide_eq_true (by first | (with_reducible assumption) | assumption); first | exact h_ | (have e_ := (Kd.R_reads' HO_0.out).1; omega) | simpa using h_) (seg := [.int .i64 (wrap64 ((wrap64 ((wrap64 (x1_1 + 1)) + 1)) + 1))]) (j := 3) hcl19 hcc19 (show 4 ≤ 6 from by decide) (x' := (⟨(rd_T41 y103 x5_1).f0, (rd_T41 y103 x5_1).f1, (rd_T41 y103 x5_1).f2, wrap64 ((wrap64 ((wrap64 (x1_1 + 1)) + 1)) + 1), (rd_T41 y103 x5_1).f4, (rd_T41 y103 x5_1).f5⟩ : S41)) (k41_mkM _ _ _ (⟨(rd_T41 y103 x5_1).f0, (rd_T41 y103 x5_1).f1, (rd_T41 y103 x5_1).f2, wrap64 ((wrap64 ((wrap64 (x1_1 + 1)) + 1)) + 1), (rd_T41 y103 x5_1).f4, (rd_T41 y103 x5_1).f5⟩ : S41) ) (fun _ hk => hk); have hx19_3 := hcc19 3 _ rfl; (try simp only [show (k41).sz = 6 from rfl, Nat.mul_one, Nat.add_zero] at hx19_3); have hf19_3 := hfr19 3; (try simp only [show (k41).sz = 6 from rfl, Nat.mul_one, Nat.add_zero] at hf19_3); clear hcl19 hcc19 hfr19 hM19) | ((with_reducible refine gate_store (t := 3) (p := 37) rfl ?_); refine store_event (t := 3) (p := 37) (v := ?vo_w20) (w1 := (w18.setCell ⟨go5, (x5_1 : Int).toNat * 6 + 3, none⟩ (.int .i64 (wrap64 ((wrap64 ((wrap64 (x1_1 + 1)) + 1)) + 1))))) ?hg ?ho ?hn ?hr ?_; (case ho => rfl); (case hg => rfl); (case hn => rfl); (case hr => first | (go_simp; done) | (go_simp; rfl)); intro w20 hw; have hg : w18.grownBy w20 (some go5) := (by rw [hw]; exact HP19.2); have hp_ : Kd.R k41 41 w20 w0.heap.size (fun k_ => (P0_ k_ ∨ w.heap.size ≤ k_)) (.slice (some ⟨go5, 0, none⟩) x0_1.length co12) y104 := (by rw [hw, Ny104.out]; exact HP19.1); clear HP19; have n0_ := mz (hp_); have n1_ := mz ((by rw [hw]; exact below_set (HB.out) GB5.out : Below w0.heap.size w0 w20)); have n2_ := mz (Kept.of_grown (S := (fun k_ => P0_ k_)) hg (by repeat (first | (with_reducible first | exact HK.out | apply Kept.alloc | apply Kept.drewN | apply Kept.drew) | exact HK.out)) (fun k_ e_ => (HO_0.out.1 k_ e_))); clear HO_0; clear HB; clear HK; have HO_0 := n0_; have HB := n1_; have HK := n2_; clear n0_ n1_ n2_; clear hg hw hp_) | ((with_reducible refine gate_callee (f := 38) rfl ?_); refine goesL_ (some 43) rfl rfl Try.func38 (by kernel_rfl) rfl #[.int .i64 (wrap64 ((wrap64 ((wrap64 ((wrap64 (x1_1 + 1)) + 1)) + 1)) + 1))] rfl (by (try simp only [List.map_toArray, List.map_cons, List.map_nil]); first | done | rfl | (simp only [List.length_drop, List.length_take]; rfl)) ?_; (with_reducible refine (laws_markText.calls k1 (wrap64 ((wrap64 ((wrap64 ((wrap64 (x1_1 + 1)) + 1)) + 1)) + 1)) t105 _ A9.out).mono ?_); rintro e w21 ⟨rfl, hb⟩; refine ⟨_, rfl, ?_⟩; have n0_ := mz (Kd.R_below (by (with_reducible repeat (first | apply Kd.R_alloc | apply Kd.R_drewN | apply Kd.R_drew)); exact HO_0.out) hb); have n1_ := mz (Kept.below (S := (fun k_ => P0_ k_)) (by repeat (first | (with_reducible first | exact HK.out | apply Kept.alloc | apply Kept.drewN | apply Kept.drew) | exact HK.out)) hb); have n2_ := mz (below_step (by repeat (first | (with_reducible first | exact HB.out | apply below_alloc | apply pw_below_drewN | apply below_drew1) | exact HB.out)) hb); clear HO_0; clear HK; clear HB; have HO_0 := n0_; have HK := n1_; have HB := n2_; clear n0_ n1_ n2_; (try clear hb); (try clear hb2); (try clear hk); (try clear hi); have p10 : 0 ≤ (x5_1 : Int) := of_decide_eq_true (by first | (with_reducible assumption) | assumption); have q10 : (x5_1 : Int) < ((x0_1.length : Int) : Int) := of_decide_eq_true (by first | (with_reducible assumption) | assumption); obtain ⟨ce10, hcl10, hM10, hcc10, hfr10⟩ := Kd.R_elem HO_0.out z41 (x5_1 : Int) p10 q10; obtain rfl := k41_openM hM10; have hx10_0 : w21.cell? ⟨go5, (x5_1 : Int).toNat * 6, none⟩ = some (.int .i64 ((rd_T41 y104 x5_1).f0)) := hcc10 0 _ rfl; have hx10_1 : w21.cell? ⟨go5, (x5_1 : Int).toNat * 6 + 1, none⟩ = some (.int .i64 ((rd_T41 y104 x5_1).f1)) := hcc10 1 _ rfl; have hx10_2 : w21.cell? ⟨go5, (x5_1 : Int).toNat * 6 + 2, none⟩ = some (.int .i64 ((rd_T41 y104 x5_1).f2)) := hcc10 2 _ rfl; have hx10_3 : w21.cell? ⟨go5, (x5_1 : Int).toNat * 6 + 3, none⟩ = some (.int .i64 ((rd_T41 y104 x5_1).f3)) := hcc10 3 _ rfl; have hx10_4 : w21.cell? ⟨go5, (x5_1 : Int).toNat * 6 + 4, none⟩ = some (.string ((rd_T41 y104 x5_1).f4)) := hcc10 4 _ rfl; have hx10_5 : w21.cell? ⟨go5, (x5_1 : Int).toNat * 6 + 5, none⟩ = some (.bool ((rd_T41 y104 x5_1).f5)) := hcc10 5 _ rfl; have hf10_0 : w21.frozen? ⟨go5, (x5_1 : Int).toNat * 6, none⟩ = false := hfr10 0; have hf10_1 : w21.frozen? ⟨go5, (x5_1 : Int).toNat * 6 + 1, none⟩ = false := hfr10 1; have hf10_2 : w21.frozen? ⟨go5, (x5_1 : Int).toNat * 6 + 2, none⟩ = false := hfr10 2; have hf10_3 : w21.frozen? ⟨go5, (x5_1 : Int).toNat * 6 + 3, none⟩ = false := hfr10 3; have hf10_4 : w21.frozen? ⟨go5, (x5_1 : Int).toNat * 6 + 4, none⟩ = false := hfr10 4; have hf10_5 : w21.frozen? ⟨go5, (x5_1 : Int).toNat * 6 + 5, none⟩ = false := hfr10 5; clear hcl10 hcc10 hfr10 hM10; replace p10 := eq_true p10; replace q10 := eq_true q10; have HX22 := mz (show Kd.R k41 41 w21 w0.heap.size (fun k_ => (P0_ k_ ∨ w.heap.size ≤ k_)) (.slice (some ⟨go5, 0, none⟩) x0_1.length co12) y104 from (by (with_reducible repeat (first | apply Kd.R_alloc | apply Kd.R_drewN | apply Kd.R_drew)); exact HO_0.out)); obtain ⟨ce22, hcl22, hM22, hcc22, hfr22⟩ := Kd.R_elem HX22.out z41 (x5_1 : Int) (of_decide_eq_true (by first | (with_reducible assumption) | assumption)) (by have h_ : (x5_1 : Int) < ((x0_1.length : Int) : Int) := of_decide_eq_true (by first | (with_reducible assumption) | assumption); first | exact h_ | (have e_ := (Kd.R_reads' HO_0.out).1; omega) | simpa using h_); obtain rfl := k41_openM hM22; have HP22 := Kd.R_seg HX22.out (x5_1 : Int) (of_decide_eq_true (by first | (with_reducible assumption) | assumption)) (by have h_ : (x5_1 : Int) < ((x0_1.length : Int) : Int) := of_decide_eq_true (by first | (with_reducible assumption) | assumption); first | exact h_ | (have e_ := (Kd.R_reads' HO_0.out).1; omega) | simpa using h_) (seg := [.string t105]) (j := 4) hcl22 hcc22 (show 5 ≤ 6 from by decide) (x' := (⟨(rd_T41 y104 x5_1).f0, (rd_T41 y104 x5_1).f1, (rd_T41 y104 x5_1).f2, (rd_T41 y104 x5_1).f3, t105, (rd_T41 y104 x5_1).f5⟩ : S41)) (k41_mkM _ _ _ (⟨(rd_T41 y104 x5_1).f0, (rd_T41 y104 x5_1).f1, (rd_T41 y104 x5_1).f2, (rd_T41 y104 x5_1).f3, t105, (rd_T41 y104 x5_1).f5⟩ : S41) ) (fun _ hk => hk); have hx22_4 := hcc22 4 _ rfl; (try simp only [show (k41).sz = 6 from rfl, Nat.mul_one, Nat.add_zero] at hx22_4); have hf22_4 := hfr22 4; (try simp only [show (k41).sz = 6 from rfl, Nat.mul_one, Nat.add_zero] at hf22_4); clear hcl22 hcc22 hfr22 hM22) | ((with_reducible refine gate_store (t := 9) (p := 45) rfl ?_); refine store_event (t := 9) (p := 45) (v := ?vo_w23) (w1 := (w21.setCell ⟨go5, (x5_1 : Int).toNat * 6 + 4, none⟩ (.string t105))) ?hg ?ho ?hn ?hr ?_; (case ho => rfl); (case hg => rfl); (case hn => rfl); (case hr => first | (go_simp; done) | (go_simp; rfl)); intro w23 hw; have hg : w21.grownBy w23 (some go5) := (by rw [hw]; exact HP22.2); have hp_ : Kd.R k41 41 w23 w0.heap.size (fun k_ => (P0_ k_ ∨ w.heap.size ≤ k_)) (.slice (some ⟨go5, 0, none⟩) x0_1.length co12) y106 := (by rw [hw, Ny106.out]; exact HP22.1); clear HP22; have n0_ := mz (hp_); have n1_ := mz ((by rw [hw]; exact below_set (HB.out) GB5.out : Below w0.heap.size w0 w23)); have n2_ := mz (Kept.of_grown (S := (fun k_ => P0_ k_)) hg (by repeat (first | (with_reducible first | exact HK.out | apply Kept.alloc | apply Kept.drewN | apply Kept.drew) | exact HK.out)) (fun k_ e_ => (HO_0.out.1 k_ e_))); clear HO_0; clear HB; clear HK; have HO_0 := n0_; have HB := n1_; have HK := n2_; clear n0_ n1_ n2_; clear hg hw hp_; have p11 : 0 ≤ (x5_1 : Int) := of_decide_eq_true (by first | (with_reducible assumption) | assumption); have q11 : (x5_1 : Int) < ((x0_1.length : Int) : Int) := of_decide_eq_true (by first | (with_reducible assumption) | assumption); obtain ⟨ce11, hcl11, hM11, hcc11, hfr11⟩ := Kd.R_elem HO_0.out z41 (x5_1 : Int) p11 q11; obtain rfl := k41_openM hM11; have hx11_0 : w23.cell? ⟨go5, (x5_1 : Int).toNat * 6, none⟩ = some (.int .i64 ((rd_T41 y106 x5_1).f0)) := hcc11 0 _ rfl; have hx11_1 : w23.cell? ⟨go5, (x5_1 : Int).toNat * 6 + 1, none⟩ = some (.int .i64 ((rd_T41 y106 x5_1).f1)) := hcc11 1 _ rfl; have hx11_2 : w23.cell? ⟨go5, (x5_1 : Int).toNat * 6 + 2, none⟩ = some (.int .i64 ((rd_T41 y106 x5_1).f2)) := hcc11 2 _ rfl; have hx11_3 : w23.cell? ⟨go5, (x5_1 : Int).toNat * 6 + 3, none⟩ = some (.int .i64 ((rd_T41 y106 x5_1).f3)) := hcc11 3 _ rfl; have hx11_4 : w23.cell? ⟨go5, (x5_1 : Int).toNat * 6 + 4, none⟩ = some (.string ((rd_T41 y106 x5_1).f4)) := hcc11 4 _ rfl; have hx11_5 : w23.cell? ⟨go5, (x5_1 : Int).toNat * 6 + 5, none⟩ = some (.bool ((rd_T41 y106 x5_1).f5)) := hcc11 5 _ rfl; have hf11_0 : w23.frozen? ⟨go5, (x5_1 : Int).toNat * 6, none⟩ = false := hfr11 0; have hf11_1 : w23.frozen? ⟨go5, (x5_1 : Int).toNat * 6 + 1, none⟩ = false := hfr11 1; have hf11_2 : w23.frozen? ⟨go5, (x5_1 : Int).toNat * 6 + 2, none⟩ = false := hfr11 2; have hf11_3 : w23.frozen? ⟨go5, (x5_1 : Int).toNat * 6 + 3, none⟩ = false := hfr11 3; have hf11_4 : w23.frozen? ⟨go5, (x5_1 : Int).toNat * 6 + 4, none⟩ = false := hfr11 4; have hf11_5 : w23.frozen? ⟨go5, (x5_1 : Int).toNat * 6 + 5, none⟩ = false := hfr11 5; clear hcl11 hcc11 hfr11 hM11; replace p11 := eq_true p11; replace q11 := eq_true q11; have HX24 := mz (show Kd.R k41 41 w23 w0.heap.size (fun k_ => (P0_ k_ ∨ w.heap.size ≤ k_)) (.slice (some ⟨go5, 0, none⟩) x0_1.length co12) y106 from (by (with_reducible repeat (first | apply Kd.R_alloc | apply Kd.R_drewN | apply Kd.R_drew)); exact HO_0.out)); obtain ⟨ce24, hcl24, hM24, hcc24, hfr24⟩ := Kd.R_elem HX24.out z41 (x5_1 : Int) (of_decide_eq_true (by first | (with_reducible assumption) | assumption)) (by have h_ : (x5_1 : Int) < ((x0_1.length : Int) : Int) := of_decide_eq_true (by first | (with_reducible assumption) | assumption); first | exact h_ | (have e_ := (Kd.R_reads' HO_0.out).1; omega) | simpa using h_); obtain rfl := k41_openM hM24; have HP24 := Kd.R_seg HX24.out (x5_1 : Int) (of_decide_eq_true (by first | (with_reducible assumption) | assumption)) (by have h_ : (x5_1 : Int) < ((x0_1.length : Int) : Int) := of_decide_eq_true (by first | (with_reducible assumption) | assumption); first | exact h_ | (have e_ := (Kd.R_reads' HO_0.out).1; omega) | simpa using h_) (seg := [.bool ((Int.tmod (wrap64 ((wrap64 ((wrap64 ((wrap64 ((wrap64 (x1_1 + 1)) + 1)) + 1)) + 1)) + 1)) 3) == 0)]) (j := 5) hcl24 hcc24 (show 6 ≤ 6 from by decide) (x' := (⟨(rd_T41 y106 x5_1).f0, (rd_T41 y106 x5_1).f1, (rd_T41 y106 x5_1).f2, (rd_T41 y106 x5_1).f3, (rd_T41 y106 x5_1).f4, ((Int.tmod (wrap64 ((wrap64 ((wrap64 ((wrap64 ((wrap64 (x1_1 + 1)) + 1)) + 1)) + 1)) + 1)) 3) == 0)⟩ : S41)) (k41_mkM _ _ _ (⟨(rd_T41 y106 x5_1).f0, (rd_T41 y106 x5_1).f1, (rd_T41 y106 x5_1).f2, (rd_T41 y106 x5_1).f3, (rd_T41 y106 x5_1).f4, ((Int.tmod (wrap64 ((wrap64 ((wrap64 ((wrap64 ((wrap64 (x1_1 + 1)) + 1)) + 1)) + 1)) + 1)) 3) == 0)⟩ : S41) ) (fun _ hk => hk); have hx24_5 := hcc24 5 _ rfl; (try simp only [show (k41).sz = 6 from rfl, Nat.mul_one, Nat.add_zero] at hx24_5); have hf24_5 := hfr24 5; (try simp only [show (k41).sz = 6 from rfl, Nat.mul_one, Nat.add_zero] at hf24_5); clear hcl24 hcc24 hfr24 hM24) | ((with_reducible refine gate_store (t := 4) (p := 54) rfl ?_); refine store_event (t := 4) (p := 54) (v := ?vo_w25) (w1 := (w23.setCell ⟨go5, (x5_1 : Int).toNat * 6 + 5, none⟩ (.bool ((Int.tmod (wrap64 ((wrap64 ((wrap64 ((wrap64 ((wrap64 (x1_1 + 1)) + 1)) + 1)) + 1)) + 1)) 3) == 0)))) ?hg ?ho ?hn ?hr ?_; (case ho => rfl); (case hg => rfl); (case hn => rfl); (case hr => first | (go_simp; done) | (go_simp; rfl)); intro w25 hw; have hg : w23.grownBy w25 (some go5) := (by rw [hw]; exact HP24.2); have hp_ : Kd.R k41 41 w25 w0.heap.size (fun k_ => (P0_ k_ ∨ w.heap.size ≤ k_)) (.slice (some ⟨go5, 0, none⟩) x0_1.length co12) y107 := (by rw [hw, Ny107.out]; exact HP24.1); clear HP24; have n0_ := mz (hp_); have n1_ := mz ((by rw [hw]; exact below_set (HB.out) GB5.out : Below w0.heap.size w0 w25)); have n2_ := mz (Kept.of_grown (S := (fun k_ => P0_ k_)) hg (by repeat (first | (with_reducible first | exact HK.out | apply Kept.alloc | apply Kept.drewN | apply Kept.drew) | exact HK.out)) (fun k_ e_ => (HO_0.out.1 k_ e_))); clear HO_0; clear HB; clear HK; have HO_0 := n0_; have HB := n1_; have HK := n2_; clear n0_ n1_ n2_; clear hg hw hp_))
          go_roundg k1
          case measure => have := HK1.out; omega
          case rel => exact ⟨(y107), (wrap64 ((wrap64 ((wrap64 ((wrap64 ((wrap64 ((wrap64 (x1_1 + 1)) + 1)) + 1)) + 1)) + 1)) + 1)), (wrap64 (x5_1 + 1)), (by first | rfl | (simp; done) | (simp [*]; done)), (by first | rfl | (simp; done) | (simp [*]; done)), H', ⟨by have := HK1.out; omega⟩, ⟨by (with_reducible repeat (first | apply Kd.R_alloc | apply Kd.R_drewN | apply Kd.R_drew)); exact HO_0.out⟩, ⟨by repeat (first | (with_reducible first | exact HK.out | apply Kept.alloc | apply Kept.drewN | apply Kept.drew) | exact HK.out)⟩, ⟨by repeat (first | (with_reducible first | exact HB.out | apply below_alloc | apply pw_below_drewN | apply below_drew1) | exact HB.out)⟩⟩
        · rw [if_neg c4] at H
          exact absurd H (by simp)
      · rw [if_neg c3] at H
        have c3b0 : decide (x5_1 < (x0_1.length : Int)) = false := decide_eq_false c3
        clear c3
        simp only [Option.some.injEq, Prod.mk.injEq] at H
        obtain ⟨rfl, rfl⟩ := H
        obtain ⟨Ao26, co26, eo26⟩ := Kd.R_slice HO_0.out
        subst eo26
        go_wp2
        go_ret
        exact ⟨by first | rfl | (simp [errW_none, errW_some] <;> rfl) | (simp [*, errW_none, errW_some] <;> rfl), by (with_reducible repeat (first | apply Kd.R_alloc | apply Kd.R_drewN | apply Kd.R_drew)); exact HO_0.out, by repeat (first | (with_reducible first | exact HB.out | apply below_alloc | apply pw_below_drewN | apply below_drew1) | exact HB.out), by repeat (first | (with_reducible first | exact HK.out | apply Kept.alloc | apply Kept.drewN | apply Kept.drew) | exact HK.out)⟩
end
section
attribute [local go_sem] max2_int min2_int max_two min_two max_three min_three max_four min_four
def laws_markSeq.f (k : Nat) (l0_0 : List (S41)) (a1 : Int) : Option (Int × (List (S41))) := (laws_markAtomS.f k l0_0 a1).bind fun bt102 => (some (bt102.1, bt102.2))
set_option maxHeartbeats 8000000 in
set_option maxRecDepth 100000 in
theorem laws_markSeq.calls (k : Nat) (P0_0_ : Nat → Prop) (u9000_ : Value) (l0_0 : List (S41)) (a1 : Int) (r1 : Int) (r2 : List (S41)) (w0 w : World) (hB : Below w0.heap.size w0 w) (ho0_0 : Kd.R k41 41 w w0.heap.size P0_0_ u9000_ l0_0) (h : laws_markSeq.f k l0_0 a1 = some (r1, r2)) :
    Calls Try.prog 9 #[.agg #[u9000_], .int .i64 a1] w fun e w' => e = .returned (.int .i64 r1) ∧ Kd.R k41 41 w' w0.heap.size (fun k_ => (P0_0_ k_ ∨ w.heap.size ≤ k_)) u9000_ r2 ∧ Below w0.heap.size w0 w' ∧ Kept w w' (fun k_ => P0_0_ k_) := by
  have hu28 := Try.underlying28
  have HO0_0 := mz (show Kd.R k41 41 w w0.heap.size (fun k_ => (P0_0_ k_ ∨ w.heap.size ≤ k_)) u9000_ l0_0 from Kd.R_mono ho0_0 (fun k_ hk => (.inl hk)))
  have HK := mz (Kept.refl w (fun k_ => P0_0_ k_))
  have HW0 := mz hB.size
  have HB := mz hB
  clear hB
  have H : ((laws_markAtomS.f k l0_0 a1).bind fun bt102 => (some (bt102.1, bt102.2))) = some (r1, r2) := h
  clear h
  replace H := be0_ H
  obtain ⟨⟨t102, t103⟩, A30, H⟩ := H
  replace H : (some (t102, t103)) = some (r1, r2) := H
  have A3 := mz A30
  clear A30
  simp only [Option.some.injEq, Prod.mk.injEq] at H
  obtain ⟨rfl, rfl⟩ := H
  obtain ⟨Ao4, co4, eo4⟩ := Kd.R_slice HO0_0.out
  subst eo4
  go_enter Try.func9, Try.ntmps9
  go_wp2_with (first | ((with_reducible refine gate_dst (N := 2) rfl ?_); refine box_event ?hg (N := 2) ?hd (cs := #[.slice Ao4 l0_0.length co4]) (t := 28) ?hr ?_; (case hd => rfl); (case hg => rfl); (case hr => first | (go_simp; done) | (go_simp; rfl)); intro gb101 hg w5 hbox hb; have n0_ := mz (Kd.R_below (by (with_reducible repeat (first | apply Kd.R_alloc | apply Kd.R_drewN | apply Kd.R_drew)); exact HO0_0.out) hb); have n1_ := mz (Kept.below (S := (fun k_ => P0_0_ k_)) (by repeat (first | (with_reducible first | exact HK.out | apply Kept.alloc | apply Kept.drewN | apply Kept.drew) | exact HK.out)) hb); have n2_ := mz (below_step (by repeat (first | (with_reducible first | exact HB.out | apply below_alloc | apply pw_below_drewN | apply below_drew1) | exact HB.out)) hb); have n3_ := mz (hbox); have n4_ := mz ((by rw [hg]; exact (by first | exact HK.out.1 | exact (show Kept w _ (fun k_ => P0_0_ k_) from by repeat (first | (with_reducible first | exact HK.out | apply Kept.alloc | apply Kept.drewN | apply Kept.drew) | exact HK.out)).1) : w.heap.size ≤ gb101)); have n5_ := mz ((by rw [hg]; exact (below_size (by repeat (first | (with_reducible first | exact HB.out | apply below_alloc | apply pw_below_drewN | apply below_drew1) | exact HB.out))) : w0.heap.size ≤ gb101)); clear HO0_0; clear HK; clear HB; have HO0_0 := n0_; have HK := n1_; have HB := n2_; have BK101 := n3_; have GW101 := n4_; have GE101 := n5_; clear n0_ n1_ n2_ n3_ n4_ n5_; clear hb hbox hg; have hcz6_0 : w5.cell? ⟨gb101, 0, none⟩ = some (.slice Ao4 l0_0.length co4) := (blk_cell BK101.out 0).trans rfl; have hfz6_0 := blk_frozen BK101.out 0) | ((with_reducible refine gate_callee (f := 22) rfl ?_); refine goesL_ (some 8) rfl rfl Try.func22 (by kernel_rfl) rfl #[.slice Ao4 l0_0.length co4, .int .i64 a1] rfl (by (try simp only [List.map_toArray, List.map_cons, List.map_nil]); first | done | rfl | (simp only [List.length_drop, List.length_take]; rfl)) ?_; (with_reducible refine (laws_markAtomS.calls k (fun k_ => some k_ = (.slice Ao4 l0_0.length co4 : Value).ownBlock) (.slice Ao4 l0_0.length co4) l0_0 a1 t102 t103 w0 _ ?side1 ?side2 A3.out).mono ?_); (case side1 => repeat (first | (with_reducible first | exact HB.out | apply below_alloc | apply pw_below_drewN | apply below_drew1 | refine below_set ?_ GE101.out) | exact HB.out)); (case side2 => exact Kd.R_tight rfl HO0_0.out); rintro e w7 ⟨rfl, hy0, hb, hkp⟩; refine ⟨_, rfl, ?_⟩; have n0_ := mz (Kd.R_reok rfl hy0 (fun k_ e_ => HO0_0.out.1 k_ e_)); have n1_ := mz (blk_kept (by (with_reducible repeat (first | refine blk_drewN ?_ _ | refine blk_drew ?_ | refine blk_alloc ?_ _)); exact BK101.out) hkp (fun hs_ => (fun e_ => (Kd.R_ne HO0_0.out BK101.out (by decide)) e_) hs_)); have n2_ := mz (Kept.then_ (S := (fun k_ => P0_0_ k_)) (by repeat (first | (with_reducible first | exact HK.out | apply Kept.alloc | apply Kept.drewN | apply Kept.drew | refine Kept.setCell ?_ (.inr GW101.out) _) | exact HK.out)) hkp (fun k_ hs_ => (fun e_ => (HO0_0.out.1 k_ e_.symm)) hs_)); have n3_ := mz (hb); clear HO0_0; clear BK101; clear HK; clear HB; have HO0_0 := n0_; have BK101 := n1_; have HK := n2_; have HB := n3_; clear n0_ n1_ n2_ n3_; (try clear hb); (try clear hkp); (try clear hy0)))
  go_ret
  exact ⟨by first | rfl | (simp [errW_none, errW_some] <;> rfl) | (simp [*, errW_none, errW_some] <;> rfl), by (with_reducible repeat (first | apply Kd.R_alloc | apply Kd.R_drewN | apply Kd.R_drew)); exact HO0_0.out, by repeat (first | (with_reducible first | exact HB.out | apply below_alloc | apply pw_below_drewN | apply below_drew1 | refine below_set ?_ GE101.out) | exact HB.out), by repeat (first | (with_reducible first | exact HK.out | apply Kept.alloc | apply Kept.drewN | apply Kept.drew | refine Kept.setCell ?_ (.inr GW101.out) _) | exact HK.out)⟩
end
section
attribute [local go_sem] max2_int min2_int max_two min_two max_three min_three max_four min_four
def laws_heldAtomS.l0 : Nat → List (S41) → Int → Int → Option (Int)
  | 0, _, _, _ => none
  | k + 1, x0, x1, x5 => if x5 < (x0.length : Int) then (if 0 ≤ x5 then (if ((rd_T41 x0 x5).f0) = x1 then (if ((rd_T41 x0 x5).f1) = (wrap64 (x1 + 1)) then (if ((rd_T41 x0 x5).f2) = (wrap64 ((wrap64 (x1 + 1)) + 1)) then (if ((rd_T41 x0 x5).f3) = (wrap64 ((wrap64 ((wrap64 (x1 + 1)) + 1)) + 1)) then ((laws_markText.f k (wrap64 ((wrap64 ((wrap64 ((wrap64 (x1 + 1)) + 1)) + 1)) + 1))).bind fun t106 => (if ((rd_T41 x0 x5).f4).toList = t106.toList then (if (((rd_T41 x0 x5).f5) != ((Int.tmod (wrap64 ((wrap64 ((wrap64 ((wrap64 ((wrap64 (x1 + 1)) + 1)) + 1)) + 1)) + 1)) 3) == 0)) = true then (some (-1)) else (laws_heldAtomS.l0 k x0 (wrap64 ((wrap64 ((wrap64 ((wrap64 ((wrap64 ((wrap64 (x1 + 1)) + 1)) + 1)) + 1)) + 1)) + 1)) (wrap64 (x5 + 1)))) else (some (-1)))) else (some (-1))) else (some (-1))) else (some (-1))) else (some (-1))) else (none)) else (some x1)
def laws_heldAtomS.f (k : Nat) (l0 : List (S41)) (a1 : Int) : Option (Int) := laws_heldAtomS.l0 k l0 a1 0
def laws_heldAtomS.T16 : Bool × List (List Nat × List Nat) := (true, [([], []), ([], []), ([0, 1], [0, 1]), ([2], [2]), ([3], [3]), ([], []), ([5], [5]), ([4, 6], [4, 6])])
def laws_heldAtomS.B16 : List Nat := [0, 0, 3, 7, 15, 0, 32, 127]
theorem laws_heldAtomS.tab16 : rtab .any (opsOf Try.f23 16) = laws_heldAtomS.T16 := by kernel_rfl
theorem laws_heldAtomS.bits16 : waitsOk laws_heldAtomS.T16.2 laws_heldAtomS.B16 = true := by kernel_rfl
set_option maxHeartbeats 8000000 in
set_option maxRecDepth 100000 in
theorem laws_heldAtomS.calls (k : Nat) (A0 : Option Addr) (c0 : Nat) (l0 : List (S41)) (a1 : Int) (r : Int) (w : World) (hr0 : Kd.C k41 w A0 l0.length l0) (hc0 : l0.length ≤ c0) (h : laws_heldAtomS.f k l0 a1 = some r) :
    Calls Try.prog 23 #[.slice A0 l0.length c0, .int .i64 a1] w fun e w' => e = .returned (.int .i64 r) ∧ Below w.heap.size w w' := by
  have HR0 := mz hr0
  have HC0 := mz hc0
  clear hr0 hc0
  have HB := mz (Below.refl w.heap.size w)
  have H : (laws_heldAtomS.l0 k l0 a1 0) = some r := h
  clear h
  have H' := mz H
  clear H
  go_enter Try.func23, Try.ntmps23
  go_wp2
  go_loopg [1, 5] k (fun kq v1 v5 w' => ∃ (x1_1 : Int) (x5_1 : Int), v1 = .int .i64 x1_1 ∧ v5 = .int .i64 x5_1 ∧ Aside0 (laws_heldAtomS.l0 kq l0 x1_1 x5_1 = some r) ∧ Aside0 (kq ≤ k) ∧ Aside0 (Below w.heap.size w w'))
  case atStart => exact ⟨(a1), (0), (by first | rfl | (simp; done) | (simp [*]; done)), (by first | rfl | (simp; done) | (simp [*]; done)), H', ⟨Nat.le_refl _⟩, ⟨by repeat (first | (with_reducible first | exact HB.out | apply below_alloc | apply pw_below_drewN | apply below_drew1) | exact HB.out)⟩⟩
  case round =>
    clear H'
    try clear c2
    try clear p2
    obtain ⟨x1_1, x5_1, rfl, rfl, HA, HK1, HB⟩ := hrel
    cases gk with
    | zero => exact absurd HA.out (by simp [laws_heldAtomS.l0])
    | succ k1 =>
      have H := HA.out
      clear HA
      simp only [laws_heldAtomS.l0] at H
      by_cases c3 : x5_1 < (l0.length : Int)
      · rw [if_pos c3] at H
        have c3b0 : decide (x5_1 < (l0.length : Int)) = true := decide_eq_true c3
        clear c3
        by_cases c4 : 0 ≤ x5_1
        · rw [if_pos c4] at H
          have c4b0 : decide (0 ≤ x5_1) = true := decide_eq_true c4
          clear c4
          by_cases c5 : ((rd_T41 l0 x5_1).f0) = x1_1
          · rw [if_pos c5] at H
            have c5b0 : (((rd_T41 l0 x5_1).f0) == x1_1) = true := beq_iff_eq.mpr c5
            have c5b1 : (((rd_T41 l0 x5_1).f0) != x1_1) = false := bne_eq_false_iff_eq.mpr c5
            clear c5
            by_cases c6 : ((rd_T41 l0 x5_1).f1) = (wrap64 (x1_1 + 1))
            · rw [if_pos c6] at H
              have c6b0 : (((rd_T41 l0 x5_1).f1) == (wrap64 (x1_1 + 1))) = true := beq_iff_eq.mpr c6
              have c6b1 : (((rd_T41 l0 x5_1).f1) != (wrap64 (x1_1 + 1))) = false := bne_eq_false_iff_eq.mpr c6
              clear c6
              by_cases c7 : ((rd_T41 l0 x5_1).f2) = (wrap64 ((wrap64 (x1_1 + 1)) + 1))
              · rw [if_pos c7] at H
                have c7b0 : (((rd_T41 l0 x5_1).f2) == (wrap64 ((wrap64 (x1_1 + 1)) + 1))) = true := beq_iff_eq.mpr c7
                have c7b1 : (((rd_T41 l0 x5_1).f2) != (wrap64 ((wrap64 (x1_1 + 1)) + 1))) = false := bne_eq_false_iff_eq.mpr c7
                clear c7
                by_cases c8 : ((rd_T41 l0 x5_1).f3) = (wrap64 ((wrap64 ((wrap64 (x1_1 + 1)) + 1)) + 1))
                · rw [if_pos c8] at H
                  have c8b0 : (((rd_T41 l0 x5_1).f3) == (wrap64 ((wrap64 ((wrap64 (x1_1 + 1)) + 1)) + 1))) = true := beq_iff_eq.mpr c8
                  have c8b1 : (((rd_T41 l0 x5_1).f3) != (wrap64 ((wrap64 ((wrap64 (x1_1 + 1)) + 1)) + 1))) = false := bne_eq_false_iff_eq.mpr c8
                  clear c8
                  replace H := be0_ H
                  obtain ⟨t106, A90, H⟩ := H
                  replace H : (if ((rd_T41 l0 x5_1).f4).toList = t106.toList then (if (((rd_T41 l0 x5_1).f5) != ((Int.tmod (wrap64 ((wrap64 ((wrap64 ((wrap64 ((wrap64 (x1_1 + 1)) + 1)) + 1)) + 1)) + 1)) 3) == 0)) = true then (some (-1)) else (laws_heldAtomS.l0 k1 l0 (wrap64 ((wrap64 ((wrap64 ((wrap64 ((wrap64 ((wrap64 (x1_1 + 1)) + 1)) + 1)) + 1)) + 1)) + 1)) (wrap64 (x5_1 + 1)))) else (some (-1))) = some r := H
                  have A9 := mz A90
                  clear A90
                  by_cases c10 : ((rd_T41 l0 x5_1).f4).toList = t106.toList
                  · rw [if_pos c10] at H
                    have c10b0 : (((rd_T41 l0 x5_1).f4).toList == t106.toList) = true := beq_iff_eq.mpr c10
                    have c10b1 : (((rd_T41 l0 x5_1).f4).toList != t106.toList) = false := bne_eq_false_iff_eq.mpr c10
                    clear c10
                    by_cases c11 : (((rd_T41 l0 x5_1).f5) != ((Int.tmod (wrap64 ((wrap64 ((wrap64 ((wrap64 ((wrap64 (x1_1 + 1)) + 1)) + 1)) + 1)) + 1)) 3) == 0)) = true
                    · rw [if_pos c11] at H
                      have c11b0 : (((rd_T41 l0 x5_1).f5) != ((Int.tmod (wrap64 ((wrap64 ((wrap64 ((wrap64 ((wrap64 (x1_1 + 1)) + 1)) + 1)) + 1)) + 1)) 3) == 0)) = true := c11
                      (try (have c11b1 : decide (((rd_T41 l0 x5_1).f5) = ((Int.tmod (wrap64 ((wrap64 ((wrap64 ((wrap64 ((wrap64 (x1_1 + 1)) + 1)) + 1)) + 1)) + 1)) 3) == 0)) = false := by simpa using c11))
                      (try (have c11b2 : (((rd_T41 l0 x5_1).f5) == ((Int.tmod (wrap64 ((wrap64 ((wrap64 ((wrap64 ((wrap64 (x1_1 + 1)) + 1)) + 1)) + 1)) + 1)) 3) == 0)) = false := by simpa using c11))
                      (try (have c11b3 : ¬ (((rd_T41 l0 x5_1).f5) = ((Int.tmod (wrap64 ((wrap64 ((wrap64 ((wrap64 ((wrap64 (x1_1 + 1)) + 1)) + 1)) + 1)) + 1)) 3) == 0)) := by simpa using c11))
                      clear c11
                      obtain rfl := Option.some.inj H
                      have p101 : 0 ≤ (x5_1 : Int) := of_decide_eq_true (by first | (with_reducible assumption) | assumption)
                      have q101 : x5_1 < (l0.length : Int) := of_decide_eq_true (by first | (with_reducible assumption) | assumption)
                      obtain ⟨ad101, e101, hx101_0, hx101_1, hx101_2, hx101_3, hx101_4, hx101_5⟩ := at_T41 HR0.out x5_1 p101 q101
                      cases e101
                      replace hx101_0 := bc_ HB.out hx101_0
                      replace hx101_1 := bc_ HB.out hx101_1
                      replace hx101_2 := bc_ HB.out hx101_2
                      replace hx101_3 := bc_ HB.out hx101_3
                      replace hx101_4 := bc_ HB.out hx101_4
                      replace hx101_5 := bc_ HB.out hx101_5
                      replace p101 := eq_true p101
                      replace q101 := eq_true q101
                      have p102 : 0 ≤ (x5_1 : Int) := of_decide_eq_true (by first | (with_reducible assumption) | assumption)
                      have q102 : x5_1 < (l0.length : Int) := of_decide_eq_true (by first | (with_reducible assumption) | assumption)
                      obtain ⟨ad102, e102, hx102_0, hx102_1, hx102_2, hx102_3, hx102_4, hx102_5⟩ := at_T41 HR0.out x5_1 p102 q102
                      obtain rfl : ad101 = ad102 := (by injection e102)
                      replace hx102_0 := bc_ HB.out hx102_0
                      replace hx102_1 := bc_ HB.out hx102_1
                      replace hx102_2 := bc_ HB.out hx102_2
                      replace hx102_3 := bc_ HB.out hx102_3
                      replace hx102_4 := bc_ HB.out hx102_4
                      replace hx102_5 := bc_ HB.out hx102_5
                      replace p102 := eq_true p102
                      replace q102 := eq_true q102
                      have p103 : 0 ≤ (x5_1 : Int) := of_decide_eq_true (by first | (with_reducible assumption) | assumption)
                      have q103 : x5_1 < (l0.length : Int) := of_decide_eq_true (by first | (with_reducible assumption) | assumption)
                      obtain ⟨ad103, e103, hx103_0, hx103_1, hx103_2, hx103_3, hx103_4, hx103_5⟩ := at_T41 HR0.out x5_1 p103 q103
                      obtain rfl : ad101 = ad103 := (by injection e103)
                      replace hx103_0 := bc_ HB.out hx103_0
                      replace hx103_1 := bc_ HB.out hx103_1
                      replace hx103_2 := bc_ HB.out hx103_2
                      replace hx103_3 := bc_ HB.out hx103_3
                      replace hx103_4 := bc_ HB.out hx103_4
                      replace hx103_5 := bc_ HB.out hx103_5
                      replace p103 := eq_true p103
                      replace q103 := eq_true q103
                      have p104 : 0 ≤ (x5_1 : Int) := of_decide_eq_true (by first | (with_reducible assumption) | assumption)
                      have q104 : x5_1 < (l0.length : Int) := of_decide_eq_true (by first | (with_reducible assumption) | assumption)
                      obtain ⟨ad104, e104, hx104_0, hx104_1, hx104_2, hx104_3, hx104_4, hx104_5⟩ := at_T41 HR0.out x5_1 p104 q104
                      obtain rfl : ad101 = ad104 := (by injection e104)
                      replace hx104_0 := bc_ HB.out hx104_0
                      replace hx104_1 := bc_ HB.out hx104_1
                      replace hx104_2 := bc_ HB.out hx104_2
                      replace hx104_3 := bc_ HB.out hx104_3
                      replace hx104_4 := bc_ HB.out hx104_4
                      replace hx104_5 := bc_ HB.out hx104_5
                      replace p104 := eq_true p104
                      replace q104 := eq_true q104
                      try go_wp2
                      have n0_ := mz (below_drew1 HB.out)
                      clear HB
                      have HB := n0_
                      clear n0_
                      have p105 : 0 ≤ (x5_1 : Int) := of_decide_eq_true (by first | (with_reducible assumption) | assumption)
                      have q105 : x5_1 < (l0.length : Int) := of_decide_eq_true (by first | (with_reducible assumption) | assumption)
                      obtain ⟨ad105, e105, hx105_0, hx105_1, hx105_2, hx105_3, hx105_4, hx105_5⟩ := at_T41 HR0.out x5_1 p105 q105
                      have hw105_5 := hx105_5
                      have hw105_4 := hx105_4
                      have hw105_3 := hx105_3
                      have hw105_2 := hx105_2
                      have hw105_1 := hx105_1
                      have hw105_0 := hx105_0
                      obtain rfl : ad101 = ad105 := (by injection e105)
                      replace hx105_0 := bc_ HB.out hx105_0
                      replace hx105_1 := bc_ HB.out hx105_1
                      replace hx105_2 := bc_ HB.out hx105_2
                      replace hx105_3 := bc_ HB.out hx105_3
                      replace hx105_4 := bc_ HB.out hx105_4
                      replace hx105_5 := bc_ HB.out hx105_5
                      replace p105 := eq_true p105
                      replace q105 := eq_true q105
                      refine start_ (n := 8) (S := fun w' => w'.cell? (ad101.add ((x5_1).toNat * 6)) = some (.int .i64 ((rd_T41 l0 x5_1).f0)) ∧ w'.cell? ⟨(ad101.add ((x5_1).toNat * 6)).block, (ad101.add ((x5_1).toNat * 6)).off + 1, none⟩ = some (.int .i64 ((rd_T41 l0 x5_1).f1)) ∧ w'.cell? ⟨(ad101.add ((x5_1).toNat * 6)).block, (ad101.add ((x5_1).toNat * 6)).off + 2, none⟩ = some (.int .i64 ((rd_T41 l0 x5_1).f2)) ∧ w'.cell? ⟨(ad101.add ((x5_1).toNat * 6)).block, (ad101.add ((x5_1).toNat * 6)).off + 3, none⟩ = some (.int .i64 ((rd_T41 l0 x5_1).f3)) ∧ w'.cell? ⟨(ad101.add ((x5_1).toNat * 6)).block, (ad101.add ((x5_1).toNat * 6)).off + 4, none⟩ = some (.string ((rd_T41 l0 x5_1).f4)) ∧ w'.cell? ⟨(ad101.add ((x5_1).toNat * 6)).block, (ad101.add ((x5_1).toNat * 6)).off + 5, none⟩ = some (.bool ((rd_T41 l0 x5_1).f5))) (ds := []) #[false, false, false, false, false, false, false, false] (by kernel_rfl) rfl rfl ⟨(bc_ HB.out hw105_0 :), (bc_ HB.out hw105_1 :), (bc_ HB.out hw105_2 :), (bc_ HB.out hw105_3 :), (bc_ HB.out hw105_4 :), (bc_ HB.out hw105_5 :)⟩ (fun hHeld => ?_); refine with_tabW laws_heldAtomS.tab16 laws_heldAtomS.bits16 (fun HT_ HW_ => ?_)
                      generalize wr.drew = w12 at HB hx105_0 hx105_1 hx105_2 hx105_3 hx105_4 hx105_5 hHeld ⊢
                      refine pure_ (i := 0) (N := some 48) (v := ?_) (a' := ?_) #[true, false, false, false, false, false, false, false] rfl rfl (any_of HT_.out (by kernel_rfl)) (fun _ _ _ h => h) (Or.inl ⟨by rfl, ?_⟩) ?_ ?_
                      rotate_left
                      · intro w'
                        go_simp
                        with_reducible rfl
                      rotate_left
                      · simp only [Act.put, List.setIfInBounds_toArray, List.set_cons_zero, List.set_cons_succ, i64_w, i32_w]
                        rfl
                      refine pure_ (i := 1) (N := some 49) (v := ?_) (a' := ?_) #[true, true, false, false, false, false, false, false] rfl rfl (any_of HT_.out (by kernel_rfl)) (fun _ _ _ h => h) (Or.inl ⟨by rfl, ?_⟩) ?_ ?_
                      rotate_left
                      · intro w'
                        go_simp
                        with_reducible rfl
                      rotate_left
                      · simp only [Act.put, List.setIfInBounds_toArray, List.set_cons_zero, List.set_cons_succ, i64_w, i32_w]
                        rfl
                      refine pure_ (i := 2) (N := some 50) (v := ?_) (a' := ?_) #[true, true, true, false, false, false, false, false] rfl rfl (any_of HT_.out (by kernel_rfl)) (fun _ _ _ h => h) (Or.inl ⟨by rfl, ?_⟩) ?_ ?_
                      rotate_left
                      · intro w'
                        go_simp
                        with_reducible rfl
                      rotate_left
                      · simp only [Act.put, List.setIfInBounds_toArray, List.set_cons_zero, List.set_cons_succ, i64_w, i32_w]
                        rfl
                      refine pure_ (i := 3) (N := some 51) (v := ?_) (a' := ?_) #[true, true, true, true, false, false, false, false] rfl rfl (any_of HT_.out (by kernel_rfl)) (fun _ _ _ h => h) (Or.inl ⟨by rfl, ?_⟩) ?_ ?_
                      rotate_left
                      · intro w'
                        go_simp
                        with_reducible rfl
                      rotate_left
                      · simp only [Act.put, List.setIfInBounds_toArray, List.set_cons_zero, List.set_cons_succ, i64_w, i32_w]
                        rfl
                      refine pure_ (i := 5) (N := some 53) (v := ?_) (a' := ?_) #[true, true, true, true, false, true, false, false] rfl rfl (any_of HT_.out (by kernel_rfl)) (fun _ _ _ h => h) (Or.inl ⟨by rfl, ?_⟩) ?_ ?_
                      rotate_left
                      · intro w'
                        go_simp
                        with_reducible rfl
                      rotate_left
                      · simp only [Act.put, List.setIfInBounds_toArray, List.set_cons_zero, List.set_cons_succ, i64_w, i32_w]
                        rfl
                      refine take_ (i := 4) (N := some 52) (v := ?_) (a' := ?_) #[true, true, true, true, true, true, false, false] rfl rfl (take_ofW HT_.out HW_.out (by kernel_rfl)) (fun _ _ _ h => h) (Or.inl ⟨by rfl, ?_⟩) hHeld ?_ ?_
                      rotate_left
                      · rintro w' ⟨s0, s1, s2, s3, s4, s5⟩
                        go_simp
                        with_reducible rfl
                      rotate_left
                      · simp only [Act.put, List.setIfInBounds_toArray, List.set_cons_zero, List.set_cons_succ, i64_w, i32_w]
                        rfl
                      refine one_ (i := 6) (N := some 54) #[true, true, true, true, true, true, true, false] rfl rfl (one_of HT_.out (by kernel_rfl)) (by decide) (fun K hK => ?_)
                      refine goes_ Try.func38 (by kernel_rfl) rfl #[.int .i64 (wrap64 ((wrap64 ((wrap64 ((wrap64 (x1_1 + 1)) + 1)) + 1)) + 1))] (by rfl) rfl rfl (by (try simp only [List.map_toArray, List.map_cons, List.map_nil]); first | done | rfl | (simp only [List.length_drop, List.length_take]; rfl)) ?_
                      with_reducible refine (laws_markText.calls k1 (wrap64 ((wrap64 ((wrap64 ((wrap64 (x1_1 + 1)) + 1)) + 1)) + 1)) t106 _ A9.out).mono ?_
                      rintro e w13 ⟨rfl, hb⟩
                      refine ⟨_, rfl, ?_⟩
                      have n0_ := mz (below_step (by repeat (first | (with_reducible first | exact HB.out | apply below_alloc | apply pw_below_drewN | apply below_drew1) | exact HB.out)) hb)
                      clear HB
                      have HB := n0_
                      clear n0_
                      (try clear hb)
                      (try clear hb2)
                      (try clear hk)
                      (try clear hi)
                      refine hK.out _ _ ⟨(bc_ HB.out hw105_0 :), (bc_ HB.out hw105_1 :), (bc_ HB.out hw105_2 :), (bc_ HB.out hw105_3 :), (bc_ HB.out hw105_4 :), (bc_ HB.out hw105_5 :)⟩ (fun hHeld => ?_)
                      clear hK K
                      refine norm_ (a' := ?_) ?_ ?_
                      rotate_left
                      · show Act.put _ (some 54) _ = _
                        simp only [Act.put, List.setIfInBounds_toArray, List.set_cons_zero, List.set_cons_succ, i64_w, i32_w]
                        rfl
                      refine pure_ (i := 7) (N := some 55) (v := ?_) (a' := ?_) #[true, true, true, true, true, true, true, true] rfl rfl (any_of HT_.out (by kernel_rfl)) (fun _ _ _ h => h) (Or.inl ⟨by rfl, ?_⟩) ?_ ?_
                      rotate_left
                      · intro w'
                        go_simp
                        with_reducible rfl
                      rotate_left
                      · simp only [Act.put, List.setIfInBounds_toArray, List.set_cons_zero, List.set_cons_succ, i64_w, i32_w]
                        rfl
                      refine done_ (done_of HT_.out (by kernel_rfl)) ?_
                      have p107 : 0 ≤ (x5_1 : Int) := of_decide_eq_true (by first | (with_reducible assumption) | assumption)
                      have q107 : x5_1 < (l0.length : Int) := of_decide_eq_true (by first | (with_reducible assumption) | assumption)
                      obtain ⟨ad107, e107, hx107_0, hx107_1, hx107_2, hx107_3, hx107_4, hx107_5⟩ := at_T41 HR0.out x5_1 p107 q107
                      obtain rfl : ad101 = ad107 := (by injection e107)
                      replace hx107_0 := bc_ HB.out hx107_0
                      replace hx107_1 := bc_ HB.out hx107_1
                      replace hx107_2 := bc_ HB.out hx107_2
                      replace hx107_3 := bc_ HB.out hx107_3
                      replace hx107_4 := bc_ HB.out hx107_4
                      replace hx107_5 := bc_ HB.out hx107_5
                      replace p107 := eq_true p107
                      replace q107 := eq_true q107
                      try go_wp2
                      go_ret
                      exact ⟨by first | rfl | (simp [errW_none, errW_some] <;> rfl) | (simp [*, errW_none, errW_some] <;> rfl), by repeat (first | (with_reducible first | exact HB.out | apply below_alloc | apply pw_below_drewN | apply below_drew1) | exact HB.out)⟩
                    · rw [if_neg c11] at H
                      have c11b0 : (((rd_T41 l0 x5_1).f5) != ((Int.tmod (wrap64 ((wrap64 ((wrap64 ((wrap64 ((wrap64 (x1_1 + 1)) + 1)) + 1)) + 1)) + 1)) 3) == 0)) = false := by simpa using c11
                      (try (have c11b1 : decide (((rd_T41 l0 x5_1).f5) = ((Int.tmod (wrap64 ((wrap64 ((wrap64 ((wrap64 ((wrap64 (x1_1 + 1)) + 1)) + 1)) + 1)) + 1)) 3) == 0)) = true := by simpa using c11))
                      (try (have c11b2 : (((rd_T41 l0 x5_1).f5) == ((Int.tmod (wrap64 ((wrap64 ((wrap64 ((wrap64 ((wrap64 (x1_1 + 1)) + 1)) + 1)) + 1)) + 1)) 3) == 0)) = true := by simpa using c11))
                      clear c11
                      have H' := mz H
                      clear H
                      have p101 : 0 ≤ (x5_1 : Int) := of_decide_eq_true (by first | (with_reducible assumption) | assumption)
                      have q101 : x5_1 < (l0.length : Int) := of_decide_eq_true (by first | (with_reducible assumption) | assumption)
                      obtain ⟨ad101, e101, hx101_0, hx101_1, hx101_2, hx101_3, hx101_4, hx101_5⟩ := at_T41 HR0.out x5_1 p101 q101
                      cases e101
                      replace hx101_0 := bc_ HB.out hx101_0
                      replace hx101_1 := bc_ HB.out hx101_1
                      replace hx101_2 := bc_ HB.out hx101_2
                      replace hx101_3 := bc_ HB.out hx101_3
                      replace hx101_4 := bc_ HB.out hx101_4
                      replace hx101_5 := bc_ HB.out hx101_5
                      replace p101 := eq_true p101
                      replace q101 := eq_true q101
                      have p102 : 0 ≤ (x5_1 : Int) := of_decide_eq_true (by first | (with_reducible assumption) | assumption)
                      have q102 : x5_1 < (l0.length : Int) := of_decide_eq_true (by first | (with_reducible assumption) | assumption)
                      obtain ⟨ad102, e102, hx102_0, hx102_1, hx102_2, hx102_3, hx102_4, hx102_5⟩ := at_T41 HR0.out x5_1 p102 q102
                      obtain rfl : ad101 = ad102 := (by injection e102)
                      replace hx102_0 := bc_ HB.out hx102_0
                      replace hx102_1 := bc_ HB.out hx102_1
                      replace hx102_2 := bc_ HB.out hx102_2
                      replace hx102_3 := bc_ HB.out hx102_3
                      replace hx102_4 := bc_ HB.out hx102_4
                      replace hx102_5 := bc_ HB.out hx102_5
                      replace p102 := eq_true p102
                      replace q102 := eq_true q102
                      have p103 : 0 ≤ (x5_1 : Int) := of_decide_eq_true (by first | (with_reducible assumption) | assumption)
                      have q103 : x5_1 < (l0.length : Int) := of_decide_eq_true (by first | (with_reducible assumption) | assumption)
                      obtain ⟨ad103, e103, hx103_0, hx103_1, hx103_2, hx103_3, hx103_4, hx103_5⟩ := at_T41 HR0.out x5_1 p103 q103
                      obtain rfl : ad101 = ad103 := (by injection e103)
                      replace hx103_0 := bc_ HB.out hx103_0
                      replace hx103_1 := bc_ HB.out hx103_1
                      replace hx103_2 := bc_ HB.out hx103_2
                      replace hx103_3 := bc_ HB.out hx103_3
                      replace hx103_4 := bc_ HB.out hx103_4
                      replace hx103_5 := bc_ HB.out hx103_5
                      replace p103 := eq_true p103
                      replace q103 := eq_true q103
                      have p104 : 0 ≤ (x5_1 : Int) := of_decide_eq_true (by first | (with_reducible assumption) | assumption)
                      have q104 : x5_1 < (l0.length : Int) := of_decide_eq_true (by first | (with_reducible assumption) | assumption)
                      obtain ⟨ad104, e104, hx104_0, hx104_1, hx104_2, hx104_3, hx104_4, hx104_5⟩ := at_T41 HR0.out x5_1 p104 q104
                      obtain rfl : ad101 = ad104 := (by injection e104)
                      replace hx104_0 := bc_ HB.out hx104_0
                      replace hx104_1 := bc_ HB.out hx104_1
                      replace hx104_2 := bc_ HB.out hx104_2
                      replace hx104_3 := bc_ HB.out hx104_3
                      replace hx104_4 := bc_ HB.out hx104_4
                      replace hx104_5 := bc_ HB.out hx104_5
                      replace p104 := eq_true p104
                      replace q104 := eq_true q104
                      try go_wp2
                      have n0_ := mz (below_drew1 HB.out)
                      clear HB
                      have HB := n0_
                      clear n0_
                      have p105 : 0 ≤ (x5_1 : Int) := of_decide_eq_true (by first | (with_reducible assumption) | assumption)
                      have q105 : x5_1 < (l0.length : Int) := of_decide_eq_true (by first | (with_reducible assumption) | assumption)
                      obtain ⟨ad105, e105, hx105_0, hx105_1, hx105_2, hx105_3, hx105_4, hx105_5⟩ := at_T41 HR0.out x5_1 p105 q105
                      have hw105_5 := hx105_5
                      have hw105_4 := hx105_4
                      have hw105_3 := hx105_3
                      have hw105_2 := hx105_2
                      have hw105_1 := hx105_1
                      have hw105_0 := hx105_0
                      obtain rfl : ad101 = ad105 := (by injection e105)
                      replace hx105_0 := bc_ HB.out hx105_0
                      replace hx105_1 := bc_ HB.out hx105_1
                      replace hx105_2 := bc_ HB.out hx105_2
                      replace hx105_3 := bc_ HB.out hx105_3
                      replace hx105_4 := bc_ HB.out hx105_4
                      replace hx105_5 := bc_ HB.out hx105_5
                      replace p105 := eq_true p105
                      replace q105 := eq_true q105
                      refine start_ (n := 8) (S := fun w' => w'.cell? (ad101.add ((x5_1).toNat * 6)) = some (.int .i64 ((rd_T41 l0 x5_1).f0)) ∧ w'.cell? ⟨(ad101.add ((x5_1).toNat * 6)).block, (ad101.add ((x5_1).toNat * 6)).off + 1, none⟩ = some (.int .i64 ((rd_T41 l0 x5_1).f1)) ∧ w'.cell? ⟨(ad101.add ((x5_1).toNat * 6)).block, (ad101.add ((x5_1).toNat * 6)).off + 2, none⟩ = some (.int .i64 ((rd_T41 l0 x5_1).f2)) ∧ w'.cell? ⟨(ad101.add ((x5_1).toNat * 6)).block, (ad101.add ((x5_1).toNat * 6)).off + 3, none⟩ = some (.int .i64 ((rd_T41 l0 x5_1).f3)) ∧ w'.cell? ⟨(ad101.add ((x5_1).toNat * 6)).block, (ad101.add ((x5_1).toNat * 6)).off + 4, none⟩ = some (.string ((rd_T41 l0 x5_1).f4)) ∧ w'.cell? ⟨(ad101.add ((x5_1).toNat * 6)).block, (ad101.add ((x5_1).toNat * 6)).off + 5, none⟩ = some (.bool ((rd_T41 l0 x5_1).f5))) (ds := []) #[false, false, false, false, false, false, false, false] (by kernel_rfl) rfl rfl ⟨(bc_ HB.out hw105_0 :), (bc_ HB.out hw105_1 :), (bc_ HB.out hw105_2 :), (bc_ HB.out hw105_3 :), (bc_ HB.out hw105_4 :), (bc_ HB.out hw105_5 :)⟩ (fun hHeld => ?_); refine with_tabW laws_heldAtomS.tab16 laws_heldAtomS.bits16 (fun HT_ HW_ => ?_)
                      generalize wr.drew = w14 at HB hx105_0 hx105_1 hx105_2 hx105_3 hx105_4 hx105_5 hHeld ⊢
                      refine pure_ (i := 0) (N := some 48) (v := ?_) (a' := ?_) #[true, false, false, false, false, false, false, false] rfl rfl (any_of HT_.out (by kernel_rfl)) (fun _ _ _ h => h) (Or.inl ⟨by rfl, ?_⟩) ?_ ?_
                      rotate_left
                      · intro w'
                        go_simp
                        with_reducible rfl
                      rotate_left
                      · simp only [Act.put, List.setIfInBounds_toArray, List.set_cons_zero, List.set_cons_succ, i64_w, i32_w]
                        rfl
                      refine pure_ (i := 1) (N := some 49) (v := ?_) (a' := ?_) #[true, true, false, false, false, false, false, false] rfl rfl (any_of HT_.out (by kernel_rfl)) (fun _ _ _ h => h) (Or.inl ⟨by rfl, ?_⟩) ?_ ?_
                      rotate_left
                      · intro w'
                        go_simp
                        with_reducible rfl
                      rotate_left
                      · simp only [Act.put, List.setIfInBounds_toArray, List.set_cons_zero, List.set_cons_succ, i64_w, i32_w]
                        rfl
                      refine pure_ (i := 2) (N := some 50) (v := ?_) (a' := ?_) #[true, true, true, false, false, false, false, false] rfl rfl (any_of HT_.out (by kernel_rfl)) (fun _ _ _ h => h) (Or.inl ⟨by rfl, ?_⟩) ?_ ?_
                      rotate_left
                      · intro w'
                        go_simp
                        with_reducible rfl
                      rotate_left
                      · simp only [Act.put, List.setIfInBounds_toArray, List.set_cons_zero, List.set_cons_succ, i64_w, i32_w]
                        rfl
                      refine pure_ (i := 3) (N := some 51) (v := ?_) (a' := ?_) #[true, true, true, true, false, false, false, false] rfl rfl (any_of HT_.out (by kernel_rfl)) (fun _ _ _ h => h) (Or.inl ⟨by rfl, ?_⟩) ?_ ?_
                      rotate_left
                      · intro w'
                        go_simp
                        with_reducible rfl
                      rotate_left
                      · simp only [Act.put, List.setIfInBounds_toArray, List.set_cons_zero, List.set_cons_succ, i64_w, i32_w]
                        rfl
                      refine pure_ (i := 5) (N := some 53) (v := ?_) (a' := ?_) #[true, true, true, true, false, true, false, false] rfl rfl (any_of HT_.out (by kernel_rfl)) (fun _ _ _ h => h) (Or.inl ⟨by rfl, ?_⟩) ?_ ?_
                      rotate_left
                      · intro w'
                        go_simp
                        with_reducible rfl
                      rotate_left
                      · simp only [Act.put, List.setIfInBounds_toArray, List.set_cons_zero, List.set_cons_succ, i64_w, i32_w]
                        rfl
                      refine take_ (i := 4) (N := some 52) (v := ?_) (a' := ?_) #[true, true, true, true, true, true, false, false] rfl rfl (take_ofW HT_.out HW_.out (by kernel_rfl)) (fun _ _ _ h => h) (Or.inl ⟨by rfl, ?_⟩) hHeld ?_ ?_
                      rotate_left
                      · rintro w' ⟨s0, s1, s2, s3, s4, s5⟩
                        go_simp
                        with_reducible rfl
                      rotate_left
                      · simp only [Act.put, List.setIfInBounds_toArray, List.set_cons_zero, List.set_cons_succ, i64_w, i32_w]
                        rfl
                      refine one_ (i := 6) (N := some 54) #[true, true, true, true, true, true, true, false] rfl rfl (one_of HT_.out (by kernel_rfl)) (by decide) (fun K hK => ?_)
                      refine goes_ Try.func38 (by kernel_rfl) rfl #[.int .i64 (wrap64 ((wrap64 ((wrap64 ((wrap64 (x1_1 + 1)) + 1)) + 1)) + 1))] (by rfl) rfl rfl (by (try simp only [List.map_toArray, List.map_cons, List.map_nil]); first | done | rfl | (simp only [List.length_drop, List.length_take]; rfl)) ?_
                      with_reducible refine (laws_markText.calls k1 (wrap64 ((wrap64 ((wrap64 ((wrap64 (x1_1 + 1)) + 1)) + 1)) + 1)) t106 _ A9.out).mono ?_
                      rintro e w15 ⟨rfl, hb⟩
                      refine ⟨_, rfl, ?_⟩
                      have n0_ := mz (below_step (by repeat (first | (with_reducible first | exact HB.out | apply below_alloc | apply pw_below_drewN | apply below_drew1) | exact HB.out)) hb)
                      clear HB
                      have HB := n0_
                      clear n0_
                      (try clear hb)
                      (try clear hb2)
                      (try clear hk)
                      (try clear hi)
                      refine hK.out _ _ ⟨(bc_ HB.out hw105_0 :), (bc_ HB.out hw105_1 :), (bc_ HB.out hw105_2 :), (bc_ HB.out hw105_3 :), (bc_ HB.out hw105_4 :), (bc_ HB.out hw105_5 :)⟩ (fun hHeld => ?_)
                      clear hK K
                      refine norm_ (a' := ?_) ?_ ?_
                      rotate_left
                      · show Act.put _ (some 54) _ = _
                        simp only [Act.put, List.setIfInBounds_toArray, List.set_cons_zero, List.set_cons_succ, i64_w, i32_w]
                        rfl
                      refine pure_ (i := 7) (N := some 55) (v := ?_) (a' := ?_) #[true, true, true, true, true, true, true, true] rfl rfl (any_of HT_.out (by kernel_rfl)) (fun _ _ _ h => h) (Or.inl ⟨by rfl, ?_⟩) ?_ ?_
                      rotate_left
                      · intro w'
                        go_simp
                        with_reducible rfl
                      rotate_left
                      · simp only [Act.put, List.setIfInBounds_toArray, List.set_cons_zero, List.set_cons_succ, i64_w, i32_w]
                        rfl
                      refine done_ (done_of HT_.out (by kernel_rfl)) ?_
                      have p107 : 0 ≤ (x5_1 : Int) := of_decide_eq_true (by first | (with_reducible assumption) | assumption)
                      have q107 : x5_1 < (l0.length : Int) := of_decide_eq_true (by first | (with_reducible assumption) | assumption)
                      obtain ⟨ad107, e107, hx107_0, hx107_1, hx107_2, hx107_3, hx107_4, hx107_5⟩ := at_T41 HR0.out x5_1 p107 q107
                      obtain rfl : ad101 = ad107 := (by injection e107)
                      replace hx107_0 := bc_ HB.out hx107_0
                      replace hx107_1 := bc_ HB.out hx107_1
                      replace hx107_2 := bc_ HB.out hx107_2
                      replace hx107_3 := bc_ HB.out hx107_3
                      replace hx107_4 := bc_ HB.out hx107_4
                      replace hx107_5 := bc_ HB.out hx107_5
                      replace p107 := eq_true p107
                      replace q107 := eq_true q107
                      try go_wp2
                      go_roundg k1
                      case measure => have := HK1.out; omega
                      case rel => exact ⟨(wrap64 ((wrap64 ((wrap64 ((wrap64 ((wrap64 ((wrap64 (x1_1 + 1)) + 1)) + 1)) + 1)) + 1)) + 1)), (wrap64 (x5_1 + 1)), (by first | rfl | (simp; done) | (simp [*]; done)), (by first | rfl | (simp; done) | (simp [*]; done)), H', ⟨by have := HK1.out; omega⟩, ⟨by repeat (first | (with_reducible first | exact HB.out | apply below_alloc | apply pw_below_drewN | apply below_drew1) | exact HB.out)⟩⟩
                  · rw [if_neg c10] at H
                    have c10b0 : (((rd_T41 l0 x5_1).f4).toList == t106.toList) = false := beq_eq_false_iff_ne.mpr c10
                    have c10b1 : (((rd_T41 l0 x5_1).f4).toList != t106.toList) = true := bne_iff_ne.mpr c10
                    obtain rfl := Option.some.inj H
                    have p101 : 0 ≤ (x5_1 : Int) := of_decide_eq_true (by first | (with_reducible assumption) | assumption)
                    have q101 : x5_1 < (l0.length : Int) := of_decide_eq_true (by first | (with_reducible assumption) | assumption)
                    obtain ⟨ad101, e101, hx101_0, hx101_1, hx101_2, hx101_3, hx101_4, hx101_5⟩ := at_T41 HR0.out x5_1 p101 q101
                    cases e101
                    replace hx101_0 := bc_ HB.out hx101_0
                    replace hx101_1 := bc_ HB.out hx101_1
                    replace hx101_2 := bc_ HB.out hx101_2
                    replace hx101_3 := bc_ HB.out hx101_3
                    replace hx101_4 := bc_ HB.out hx101_4
                    replace hx101_5 := bc_ HB.out hx101_5
                    replace p101 := eq_true p101
                    replace q101 := eq_true q101
                    have p102 : 0 ≤ (x5_1 : Int) := of_decide_eq_true (by first | (with_reducible assumption) | assumption)
                    have q102 : x5_1 < (l0.length : Int) := of_decide_eq_true (by first | (with_reducible assumption) | assumption)
                    obtain ⟨ad102, e102, hx102_0, hx102_1, hx102_2, hx102_3, hx102_4, hx102_5⟩ := at_T41 HR0.out x5_1 p102 q102
                    obtain rfl : ad101 = ad102 := (by injection e102)
                    replace hx102_0 := bc_ HB.out hx102_0
                    replace hx102_1 := bc_ HB.out hx102_1
                    replace hx102_2 := bc_ HB.out hx102_2
                    replace hx102_3 := bc_ HB.out hx102_3
                    replace hx102_4 := bc_ HB.out hx102_4
                    replace hx102_5 := bc_ HB.out hx102_5
                    replace p102 := eq_true p102
                    replace q102 := eq_true q102
                    have p103 : 0 ≤ (x5_1 : Int) := of_decide_eq_true (by first | (with_reducible assumption) | assumption)
                    have q103 : x5_1 < (l0.length : Int) := of_decide_eq_true (by first | (with_reducible assumption) | assumption)
                    obtain ⟨ad103, e103, hx103_0, hx103_1, hx103_2, hx103_3, hx103_4, hx103_5⟩ := at_T41 HR0.out x5_1 p103 q103
                    obtain rfl : ad101 = ad103 := (by injection e103)
                    replace hx103_0 := bc_ HB.out hx103_0
                    replace hx103_1 := bc_ HB.out hx103_1
                    replace hx103_2 := bc_ HB.out hx103_2
                    replace hx103_3 := bc_ HB.out hx103_3
                    replace hx103_4 := bc_ HB.out hx103_4
                    replace hx103_5 := bc_ HB.out hx103_5
                    replace p103 := eq_true p103
                    replace q103 := eq_true q103
                    have p104 : 0 ≤ (x5_1 : Int) := of_decide_eq_true (by first | (with_reducible assumption) | assumption)
                    have q104 : x5_1 < (l0.length : Int) := of_decide_eq_true (by first | (with_reducible assumption) | assumption)
                    obtain ⟨ad104, e104, hx104_0, hx104_1, hx104_2, hx104_3, hx104_4, hx104_5⟩ := at_T41 HR0.out x5_1 p104 q104
                    obtain rfl : ad101 = ad104 := (by injection e104)
                    replace hx104_0 := bc_ HB.out hx104_0
                    replace hx104_1 := bc_ HB.out hx104_1
                    replace hx104_2 := bc_ HB.out hx104_2
                    replace hx104_3 := bc_ HB.out hx104_3
                    replace hx104_4 := bc_ HB.out hx104_4
                    replace hx104_5 := bc_ HB.out hx104_5
                    replace p104 := eq_true p104
                    replace q104 := eq_true q104
                    try go_wp2
                    have n0_ := mz (below_drew1 HB.out)
                    clear HB
                    have HB := n0_
                    clear n0_
                    have p105 : 0 ≤ (x5_1 : Int) := of_decide_eq_true (by first | (with_reducible assumption) | assumption)
                    have q105 : x5_1 < (l0.length : Int) := of_decide_eq_true (by first | (with_reducible assumption) | assumption)
                    obtain ⟨ad105, e105, hx105_0, hx105_1, hx105_2, hx105_3, hx105_4, hx105_5⟩ := at_T41 HR0.out x5_1 p105 q105
                    have hw105_5 := hx105_5
                    have hw105_4 := hx105_4
                    have hw105_3 := hx105_3
                    have hw105_2 := hx105_2
                    have hw105_1 := hx105_1
                    have hw105_0 := hx105_0
                    obtain rfl : ad101 = ad105 := (by injection e105)
                    replace hx105_0 := bc_ HB.out hx105_0
                    replace hx105_1 := bc_ HB.out hx105_1
                    replace hx105_2 := bc_ HB.out hx105_2
                    replace hx105_3 := bc_ HB.out hx105_3
                    replace hx105_4 := bc_ HB.out hx105_4
                    replace hx105_5 := bc_ HB.out hx105_5
                    replace p105 := eq_true p105
                    replace q105 := eq_true q105
                    refine start_ (n := 8) (S := fun w' => w'.cell? (ad101.add ((x5_1).toNat * 6)) = some (.int .i64 ((rd_T41 l0 x5_1).f0)) ∧ w'.cell? ⟨(ad101.add ((x5_1).toNat * 6)).block, (ad101.add ((x5_1).toNat * 6)).off + 1, none⟩ = some (.int .i64 ((rd_T41 l0 x5_1).f1)) ∧ w'.cell? ⟨(ad101.add ((x5_1).toNat * 6)).block, (ad101.add ((x5_1).toNat * 6)).off + 2, none⟩ = some (.int .i64 ((rd_T41 l0 x5_1).f2)) ∧ w'.cell? ⟨(ad101.add ((x5_1).toNat * 6)).block, (ad101.add ((x5_1).toNat * 6)).off + 3, none⟩ = some (.int .i64 ((rd_T41 l0 x5_1).f3)) ∧ w'.cell? ⟨(ad101.add ((x5_1).toNat * 6)).block, (ad101.add ((x5_1).toNat * 6)).off + 4, none⟩ = some (.string ((rd_T41 l0 x5_1).f4)) ∧ w'.cell? ⟨(ad101.add ((x5_1).toNat * 6)).block, (ad101.add ((x5_1).toNat * 6)).off + 5, none⟩ = some (.bool ((rd_T41 l0 x5_1).f5))) (ds := []) #[false, false, false, false, false, false, false, false] (by kernel_rfl) rfl rfl ⟨(bc_ HB.out hw105_0 :), (bc_ HB.out hw105_1 :), (bc_ HB.out hw105_2 :), (bc_ HB.out hw105_3 :), (bc_ HB.out hw105_4 :), (bc_ HB.out hw105_5 :)⟩ (fun hHeld => ?_); refine with_tabW laws_heldAtomS.tab16 laws_heldAtomS.bits16 (fun HT_ HW_ => ?_)
                    generalize wr.drew = w16 at HB hx105_0 hx105_1 hx105_2 hx105_3 hx105_4 hx105_5 hHeld ⊢
                    refine pure_ (i := 0) (N := some 48) (v := ?_) (a' := ?_) #[true, false, false, false, false, false, false, false] rfl rfl (any_of HT_.out (by kernel_rfl)) (fun _ _ _ h => h) (Or.inl ⟨by rfl, ?_⟩) ?_ ?_
                    rotate_left
                    · intro w'
                      go_simp
                      with_reducible rfl
                    rotate_left
                    · simp only [Act.put, List.setIfInBounds_toArray, List.set_cons_zero, List.set_cons_succ, i64_w, i32_w]
                      rfl
                    refine pure_ (i := 1) (N := some 49) (v := ?_) (a' := ?_) #[true, true, false, false, false, false, false, false] rfl rfl (any_of HT_.out (by kernel_rfl)) (fun _ _ _ h => h) (Or.inl ⟨by rfl, ?_⟩) ?_ ?_
                    rotate_left
                    · intro w'
                      go_simp
                      with_reducible rfl
                    rotate_left
                    · simp only [Act.put, List.setIfInBounds_toArray, List.set_cons_zero, List.set_cons_succ, i64_w, i32_w]
                      rfl
                    refine pure_ (i := 2) (N := some 50) (v := ?_) (a' := ?_) #[true, true, true, false, false, false, false, false] rfl rfl (any_of HT_.out (by kernel_rfl)) (fun _ _ _ h => h) (Or.inl ⟨by rfl, ?_⟩) ?_ ?_
                    rotate_left
                    · intro w'
                      go_simp
                      with_reducible rfl
                    rotate_left
                    · simp only [Act.put, List.setIfInBounds_toArray, List.set_cons_zero, List.set_cons_succ, i64_w, i32_w]
                      rfl
                    refine pure_ (i := 3) (N := some 51) (v := ?_) (a' := ?_) #[true, true, true, true, false, false, false, false] rfl rfl (any_of HT_.out (by kernel_rfl)) (fun _ _ _ h => h) (Or.inl ⟨by rfl, ?_⟩) ?_ ?_
                    rotate_left
                    · intro w'
                      go_simp
                      with_reducible rfl
                    rotate_left
                    · simp only [Act.put, List.setIfInBounds_toArray, List.set_cons_zero, List.set_cons_succ, i64_w, i32_w]
                      rfl
                    refine pure_ (i := 5) (N := some 53) (v := ?_) (a' := ?_) #[true, true, true, true, false, true, false, false] rfl rfl (any_of HT_.out (by kernel_rfl)) (fun _ _ _ h => h) (Or.inl ⟨by rfl, ?_⟩) ?_ ?_
                    rotate_left
                    · intro w'
                      go_simp
                      with_reducible rfl
                    rotate_left
                    · simp only [Act.put, List.setIfInBounds_toArray, List.set_cons_zero, List.set_cons_succ, i64_w, i32_w]
                      rfl
                    refine take_ (i := 4) (N := some 52) (v := ?_) (a' := ?_) #[true, true, true, true, true, true, false, false] rfl rfl (take_ofW HT_.out HW_.out (by kernel_rfl)) (fun _ _ _ h => h) (Or.inl ⟨by rfl, ?_⟩) hHeld ?_ ?_
                    rotate_left
                    · rintro w' ⟨s0, s1, s2, s3, s4, s5⟩
                      go_simp
                      with_reducible rfl
                    rotate_left
                    · simp only [Act.put, List.setIfInBounds_toArray, List.set_cons_zero, List.set_cons_succ, i64_w, i32_w]
                      rfl
                    refine one_ (i := 6) (N := some 54) #[true, true, true, true, true, true, true, false] rfl rfl (one_of HT_.out (by kernel_rfl)) (by decide) (fun K hK => ?_)
                    refine goes_ Try.func38 (by kernel_rfl) rfl #[.int .i64 (wrap64 ((wrap64 ((wrap64 ((wrap64 (x1_1 + 1)) + 1)) + 1)) + 1))] (by rfl) rfl rfl (by (try simp only [List.map_toArray, List.map_cons, List.map_nil]); first | done | rfl | (simp only [List.length_drop, List.length_take]; rfl)) ?_
                    with_reducible refine (laws_markText.calls k1 (wrap64 ((wrap64 ((wrap64 ((wrap64 (x1_1 + 1)) + 1)) + 1)) + 1)) t106 _ A9.out).mono ?_
                    rintro e w17 ⟨rfl, hb⟩
                    refine ⟨_, rfl, ?_⟩
                    have n0_ := mz (below_step (by repeat (first | (with_reducible first | exact HB.out | apply below_alloc | apply pw_below_drewN | apply below_drew1) | exact HB.out)) hb)
                    clear HB
                    have HB := n0_
                    clear n0_
                    (try clear hb)
                    (try clear hb2)
                    (try clear hk)
                    (try clear hi)
                    refine hK.out _ _ ⟨(bc_ HB.out hw105_0 :), (bc_ HB.out hw105_1 :), (bc_ HB.out hw105_2 :), (bc_ HB.out hw105_3 :), (bc_ HB.out hw105_4 :), (bc_ HB.out hw105_5 :)⟩ (fun hHeld => ?_)
                    clear hK K
                    refine norm_ (a' := ?_) ?_ ?_
                    rotate_left
                    · show Act.put _ (some 54) _ = _
                      simp only [Act.put, List.setIfInBounds_toArray, List.set_cons_zero, List.set_cons_succ, i64_w, i32_w]
                      rfl
                    refine pure_ (i := 7) (N := some 55) (v := ?_) (a' := ?_) #[true, true, true, true, true, true, true, true] rfl rfl (any_of HT_.out (by kernel_rfl)) (fun _ _ _ h => h) (Or.inl ⟨by rfl, ?_⟩) ?_ ?_
                    rotate_left
                    · intro w'
                      go_simp
                      with_reducible rfl
                    rotate_left
                    · simp only [Act.put, List.setIfInBounds_toArray, List.set_cons_zero, List.set_cons_succ, i64_w, i32_w]
                      rfl
                    refine done_ (done_of HT_.out (by kernel_rfl)) ?_
                    try go_wp2
                    go_ret
                    exact ⟨by first | rfl | (simp [errW_none, errW_some] <;> rfl) | (simp [*, errW_none, errW_some] <;> rfl), by repeat (first | (with_reducible first | exact HB.out | apply below_alloc | apply pw_below_drewN | apply below_drew1) | exact HB.out)⟩
                · rw [if_neg c8] at H
                  have c8b0 : (((rd_T41 l0 x5_1).f3) == (wrap64 ((wrap64 ((wrap64 (x1_1 + 1)) + 1)) + 1))) = false := beq_eq_false_iff_ne.mpr c8
                  have c8b1 : (((rd_T41 l0 x5_1).f3) != (wrap64 ((wrap64 ((wrap64 (x1_1 + 1)) + 1)) + 1))) = true := bne_iff_ne.mpr c8
                  obtain rfl := Option.some.inj H
                  have p101 : 0 ≤ (x5_1 : Int) := of_decide_eq_true (by first | (with_reducible assumption) | assumption)
                  have q101 : x5_1 < (l0.length : Int) := of_decide_eq_true (by first | (with_reducible assumption) | assumption)
                  obtain ⟨ad101, e101, hx101_0, hx101_1, hx101_2, hx101_3, hx101_4, hx101_5⟩ := at_T41 HR0.out x5_1 p101 q101
                  cases e101
                  replace hx101_0 := bc_ HB.out hx101_0
                  replace hx101_1 := bc_ HB.out hx101_1
                  replace hx101_2 := bc_ HB.out hx101_2
                  replace hx101_3 := bc_ HB.out hx101_3
                  replace hx101_4 := bc_ HB.out hx101_4
                  replace hx101_5 := bc_ HB.out hx101_5
                  replace p101 := eq_true p101
                  replace q101 := eq_true q101
                  have p102 : 0 ≤ (x5_1 : Int) := of_decide_eq_true (by first | (with_reducible assumption) | assumption)
                  have q102 : x5_1 < (l0.length : Int) := of_decide_eq_true (by first | (with_reducible assumption) | assumption)
                  obtain ⟨ad102, e102, hx102_0, hx102_1, hx102_2, hx102_3, hx102_4, hx102_5⟩ := at_T41 HR0.out x5_1 p102 q102
                  obtain rfl : ad101 = ad102 := (by injection e102)
                  replace hx102_0 := bc_ HB.out hx102_0
                  replace hx102_1 := bc_ HB.out hx102_1
                  replace hx102_2 := bc_ HB.out hx102_2
                  replace hx102_3 := bc_ HB.out hx102_3
                  replace hx102_4 := bc_ HB.out hx102_4
                  replace hx102_5 := bc_ HB.out hx102_5
                  replace p102 := eq_true p102
                  replace q102 := eq_true q102
                  have p103 : 0 ≤ (x5_1 : Int) := of_decide_eq_true (by first | (with_reducible assumption) | assumption)
                  have q103 : x5_1 < (l0.length : Int) := of_decide_eq_true (by first | (with_reducible assumption) | assumption)
                  obtain ⟨ad103, e103, hx103_0, hx103_1, hx103_2, hx103_3, hx103_4, hx103_5⟩ := at_T41 HR0.out x5_1 p103 q103
                  obtain rfl : ad101 = ad103 := (by injection e103)
                  replace hx103_0 := bc_ HB.out hx103_0
                  replace hx103_1 := bc_ HB.out hx103_1
                  replace hx103_2 := bc_ HB.out hx103_2
                  replace hx103_3 := bc_ HB.out hx103_3
                  replace hx103_4 := bc_ HB.out hx103_4
                  replace hx103_5 := bc_ HB.out hx103_5
                  replace p103 := eq_true p103
                  replace q103 := eq_true q103
                  have p104 : 0 ≤ (x5_1 : Int) := of_decide_eq_true (by first | (with_reducible assumption) | assumption)
                  have q104 : x5_1 < (l0.length : Int) := of_decide_eq_true (by first | (with_reducible assumption) | assumption)
                  obtain ⟨ad104, e104, hx104_0, hx104_1, hx104_2, hx104_3, hx104_4, hx104_5⟩ := at_T41 HR0.out x5_1 p104 q104
                  obtain rfl : ad101 = ad104 := (by injection e104)
                  replace hx104_0 := bc_ HB.out hx104_0
                  replace hx104_1 := bc_ HB.out hx104_1
                  replace hx104_2 := bc_ HB.out hx104_2
                  replace hx104_3 := bc_ HB.out hx104_3
                  replace hx104_4 := bc_ HB.out hx104_4
                  replace hx104_5 := bc_ HB.out hx104_5
                  replace p104 := eq_true p104
                  replace q104 := eq_true q104
                  go_wp2
                  go_ret
                  exact ⟨by first | rfl | (simp [errW_none, errW_some] <;> rfl) | (simp [*, errW_none, errW_some] <;> rfl), by repeat (first | (with_reducible first | exact HB.out | apply below_alloc | apply pw_below_drewN | apply below_drew1) | exact HB.out)⟩
              · rw [if_neg c7] at H
                have c7b0 : (((rd_T41 l0 x5_1).f2) == (wrap64 ((wrap64 (x1_1 + 1)) + 1))) = false := beq_eq_false_iff_ne.mpr c7
                have c7b1 : (((rd_T41 l0 x5_1).f2) != (wrap64 ((wrap64 (x1_1 + 1)) + 1))) = true := bne_iff_ne.mpr c7
                obtain rfl := Option.some.inj H
                have p101 : 0 ≤ (x5_1 : Int) := of_decide_eq_true (by first | (with_reducible assumption) | assumption)
                have q101 : x5_1 < (l0.length : Int) := of_decide_eq_true (by first | (with_reducible assumption) | assumption)
                obtain ⟨ad101, e101, hx101_0, hx101_1, hx101_2, hx101_3, hx101_4, hx101_5⟩ := at_T41 HR0.out x5_1 p101 q101
                cases e101
                replace hx101_0 := bc_ HB.out hx101_0
                replace hx101_1 := bc_ HB.out hx101_1
                replace hx101_2 := bc_ HB.out hx101_2
                replace hx101_3 := bc_ HB.out hx101_3
                replace hx101_4 := bc_ HB.out hx101_4
                replace hx101_5 := bc_ HB.out hx101_5
                replace p101 := eq_true p101
                replace q101 := eq_true q101
                have p102 : 0 ≤ (x5_1 : Int) := of_decide_eq_true (by first | (with_reducible assumption) | assumption)
                have q102 : x5_1 < (l0.length : Int) := of_decide_eq_true (by first | (with_reducible assumption) | assumption)
                obtain ⟨ad102, e102, hx102_0, hx102_1, hx102_2, hx102_3, hx102_4, hx102_5⟩ := at_T41 HR0.out x5_1 p102 q102
                obtain rfl : ad101 = ad102 := (by injection e102)
                replace hx102_0 := bc_ HB.out hx102_0
                replace hx102_1 := bc_ HB.out hx102_1
                replace hx102_2 := bc_ HB.out hx102_2
                replace hx102_3 := bc_ HB.out hx102_3
                replace hx102_4 := bc_ HB.out hx102_4
                replace hx102_5 := bc_ HB.out hx102_5
                replace p102 := eq_true p102
                replace q102 := eq_true q102
                have p103 : 0 ≤ (x5_1 : Int) := of_decide_eq_true (by first | (with_reducible assumption) | assumption)
                have q103 : x5_1 < (l0.length : Int) := of_decide_eq_true (by first | (with_reducible assumption) | assumption)
                obtain ⟨ad103, e103, hx103_0, hx103_1, hx103_2, hx103_3, hx103_4, hx103_5⟩ := at_T41 HR0.out x5_1 p103 q103
                obtain rfl : ad101 = ad103 := (by injection e103)
                replace hx103_0 := bc_ HB.out hx103_0
                replace hx103_1 := bc_ HB.out hx103_1
                replace hx103_2 := bc_ HB.out hx103_2
                replace hx103_3 := bc_ HB.out hx103_3
                replace hx103_4 := bc_ HB.out hx103_4
                replace hx103_5 := bc_ HB.out hx103_5
                replace p103 := eq_true p103
                replace q103 := eq_true q103
                go_wp2
                go_ret
                exact ⟨by first | rfl | (simp [errW_none, errW_some] <;> rfl) | (simp [*, errW_none, errW_some] <;> rfl), by repeat (first | (with_reducible first | exact HB.out | apply below_alloc | apply pw_below_drewN | apply below_drew1) | exact HB.out)⟩
            · rw [if_neg c6] at H
              have c6b0 : (((rd_T41 l0 x5_1).f1) == (wrap64 (x1_1 + 1))) = false := beq_eq_false_iff_ne.mpr c6
              have c6b1 : (((rd_T41 l0 x5_1).f1) != (wrap64 (x1_1 + 1))) = true := bne_iff_ne.mpr c6
              obtain rfl := Option.some.inj H
              have p101 : 0 ≤ (x5_1 : Int) := of_decide_eq_true (by first | (with_reducible assumption) | assumption)
              have q101 : x5_1 < (l0.length : Int) := of_decide_eq_true (by first | (with_reducible assumption) | assumption)
              obtain ⟨ad101, e101, hx101_0, hx101_1, hx101_2, hx101_3, hx101_4, hx101_5⟩ := at_T41 HR0.out x5_1 p101 q101
              cases e101
              replace hx101_0 := bc_ HB.out hx101_0
              replace hx101_1 := bc_ HB.out hx101_1
              replace hx101_2 := bc_ HB.out hx101_2
              replace hx101_3 := bc_ HB.out hx101_3
              replace hx101_4 := bc_ HB.out hx101_4
              replace hx101_5 := bc_ HB.out hx101_5
              replace p101 := eq_true p101
              replace q101 := eq_true q101
              have p102 : 0 ≤ (x5_1 : Int) := of_decide_eq_true (by first | (with_reducible assumption) | assumption)
              have q102 : x5_1 < (l0.length : Int) := of_decide_eq_true (by first | (with_reducible assumption) | assumption)
              obtain ⟨ad102, e102, hx102_0, hx102_1, hx102_2, hx102_3, hx102_4, hx102_5⟩ := at_T41 HR0.out x5_1 p102 q102
              obtain rfl : ad101 = ad102 := (by injection e102)
              replace hx102_0 := bc_ HB.out hx102_0
              replace hx102_1 := bc_ HB.out hx102_1
              replace hx102_2 := bc_ HB.out hx102_2
              replace hx102_3 := bc_ HB.out hx102_3
              replace hx102_4 := bc_ HB.out hx102_4
              replace hx102_5 := bc_ HB.out hx102_5
              replace p102 := eq_true p102
              replace q102 := eq_true q102
              go_wp2
              go_ret
              exact ⟨by first | rfl | (simp [errW_none, errW_some] <;> rfl) | (simp [*, errW_none, errW_some] <;> rfl), by repeat (first | (with_reducible first | exact HB.out | apply below_alloc | apply pw_below_drewN | apply below_drew1) | exact HB.out)⟩
          · rw [if_neg c5] at H
            have c5b0 : (((rd_T41 l0 x5_1).f0) == x1_1) = false := beq_eq_false_iff_ne.mpr c5
            have c5b1 : (((rd_T41 l0 x5_1).f0) != x1_1) = true := bne_iff_ne.mpr c5
            obtain rfl := Option.some.inj H
            have p101 : 0 ≤ (x5_1 : Int) := of_decide_eq_true (by first | (with_reducible assumption) | assumption)
            have q101 : x5_1 < (l0.length : Int) := of_decide_eq_true (by first | (with_reducible assumption) | assumption)
            obtain ⟨ad101, e101, hx101_0, hx101_1, hx101_2, hx101_3, hx101_4, hx101_5⟩ := at_T41 HR0.out x5_1 p101 q101
            cases e101
            replace hx101_0 := bc_ HB.out hx101_0
            replace hx101_1 := bc_ HB.out hx101_1
            replace hx101_2 := bc_ HB.out hx101_2
            replace hx101_3 := bc_ HB.out hx101_3
            replace hx101_4 := bc_ HB.out hx101_4
            replace hx101_5 := bc_ HB.out hx101_5
            replace p101 := eq_true p101
            replace q101 := eq_true q101
            go_wp2
            go_ret
            exact ⟨by first | rfl | (simp [errW_none, errW_some] <;> rfl) | (simp [*, errW_none, errW_some] <;> rfl), by repeat (first | (with_reducible first | exact HB.out | apply below_alloc | apply pw_below_drewN | apply below_drew1) | exact HB.out)⟩
        · rw [if_neg c4] at H
          exact absurd H (by simp)
      · rw [if_neg c3] at H
        have c3b0 : decide (x5_1 < (l0.length : Int)) = false := decide_eq_false c3
        clear c3
        obtain rfl := Option.some.inj H
        go_wp2
        go_ret
        exact ⟨by first | rfl | (simp [errW_none, errW_some] <;> rfl) | (simp [*, errW_none, errW_some] <;> rfl), by repeat (first | (with_reducible first | exact HB.out | apply below_alloc | apply pw_below_drewN | apply below_drew1) | exact HB.out)⟩
end
section
attribute [local go_sem] max2_int min2_int max_two min_two max_three min_three max_four min_four
def laws_heldSeq.f (k : Nat) (l0_0 : List (S41)) (a1 : Int) : Option (Int) := (laws_heldAtomS.f k l0_0 a1).bind fun t102 => (if t102 < 0 then (some (-1)) else (some t102))
set_option maxHeartbeats 8000000 in
set_option maxRecDepth 100000 in
theorem laws_heldSeq.calls (k : Nat) (A0_0 : Option Addr) (c0_0 : Nat) (l0_0 : List (S41)) (a1 : Int) (r : Int) (w : World) (hr0_0 : Kd.C k41 w A0_0 l0_0.length l0_0) (hc0_0 : l0_0.length ≤ c0_0) (h : laws_heldSeq.f k l0_0 a1 = some r) :
    Calls Try.prog 10 #[.agg #[.slice A0_0 l0_0.length c0_0], .int .i64 a1] w fun e w' => e = .returned (.int .i64 r) ∧ Below w.heap.size w w' := by
  have hu28 := Try.underlying28
  have HR0_0 := mz hr0_0
  have HC0_0 := mz hc0_0
  clear hr0_0 hc0_0
  have HB := mz (Below.refl w.heap.size w)
  have H : ((laws_heldAtomS.f k l0_0 a1).bind fun t102 => (if t102 < 0 then (some (-1)) else (some t102))) = some r := h
  clear h
  replace H := be0_ H
  obtain ⟨t102, A30, H⟩ := H
  replace H : (if t102 < 0 then (some (-1)) else (some t102)) = some r := H
  have A3 := mz A30
  clear A30
  by_cases c4 : t102 < 0
  · rw [if_pos c4] at H
    have c4b0 : decide (t102 < 0) = true := decide_eq_true c4
    clear c4
    obtain rfl := Option.some.inj H
    go_enter Try.func10, Try.ntmps10
    go_wp2_with (first | ((with_reducible refine gate_dst (N := 2) rfl ?_); refine box_event ?hg (N := 2) ?hd (cs := #[.slice A0_0 l0_0.length c0_0]) (t := 28) ?hr ?_; (case hd => rfl); (case hg => rfl); (case hr => first | (go_simp; done) | (go_simp; rfl)); intro gb101 hg w5 hbox hb; have n0_ := mz (below_step (by repeat (first | (with_reducible first | exact HB.out | apply below_alloc | apply pw_below_drewN | apply below_drew1) | exact HB.out)) hb); have n1_ := mz (hbox); have n2_ := mz ((by rw [hg]; exact (below_size (by repeat (first | (with_reducible first | exact HB.out | apply below_alloc | apply pw_below_drewN | apply below_drew1) | exact HB.out))) : w.heap.size ≤ gb101)); have n3_ := mz ((by rw [hg]; exact (below_size (by repeat (first | (with_reducible first | exact HB.out | apply below_alloc | apply pw_below_drewN | apply below_drew1) | exact HB.out))) : w.heap.size ≤ gb101)); clear HB; have HB := n0_; have BK101 := n1_; have GW101 := n2_; have GE101 := n3_; clear n0_ n1_ n2_ n3_; clear hb hbox hg; have hcz6_0 : w5.cell? ⟨gb101, 0, none⟩ = some (.slice A0_0 l0_0.length c0_0) := (blk_cell BK101.out 0).trans rfl; have hfz6_0 := blk_frozen BK101.out 0) | ((with_reducible refine gate_callee (f := 23) rfl ?_); refine goesL_ (some 8) rfl rfl Try.func23 (by kernel_rfl) rfl #[.slice A0_0 l0_0.length c0_0, .int .i64 a1] rfl (by (try simp only [List.map_toArray, List.map_cons, List.map_nil]); first | done | rfl | (simp only [List.length_drop, List.length_take]; rfl)) ?_; (with_reducible refine (laws_heldAtomS.calls k _ _ l0_0 a1 t102 _ ?side1 ?side2 A3.out).mono ?_); (case side1 => repeat (first | exact (Kd.C_below HR0_0.out HB.out) | (with_reducible refine Kd.C_alloc ?_ _) | (with_reducible refine Kd.C_drewN ?_ _) | (with_reducible refine Kd.C_drew ?_))); (case side2 => exact HC0_0.out); rintro e w7 ⟨rfl, hb⟩; refine ⟨_, rfl, ?_⟩; have n0_ := mz (blk_below (g := gb101) (o := .cells #[.slice A0_0 l0_0.length c0_0] 28 (0, 0)) (by (with_reducible repeat (first | refine blk_drewN ?_ _ | refine blk_drew ?_ | refine blk_alloc ?_ _)); exact BK101.out) hb); have n1_ := mz (below_step (by repeat (first | (with_reducible first | exact HB.out | apply below_alloc | apply pw_below_drewN | apply below_drew1 | refine below_set ?_ GE101.out) | exact HB.out)) hb); clear BK101; clear HB; have BK101 := n0_; have HB := n1_; clear n0_ n1_; (try clear hb); (try clear hb2); (try clear hk); (try clear hi)))
    go_ret
    exact ⟨by first | rfl | (simp [errW_none, errW_some] <;> rfl) | (simp [*, errW_none, errW_some] <;> rfl), by repeat (first | (with_reducible first | exact HB.out | apply below_alloc | apply pw_below_drewN | apply below_drew1 | refine below_set ?_ GE101.out) | exact HB.out)⟩
  · rw [if_neg c4] at H
    have c4b0 : decide (t102 < 0) = false := decide_eq_false c4
    clear c4
    obtain rfl := Option.some.inj H
    go_enter Try.func10, Try.ntmps10
    go_wp2_with (first | ((with_reducible refine gate_dst (N := 2) rfl ?_); refine box_event ?hg (N := 2) ?hd (cs := #[.slice A0_0 l0_0.length c0_0]) (t := 28) ?hr ?_; (case hd => rfl); (case hg => rfl); (case hr => first | (go_simp; done) | (go_simp; rfl)); intro gb101 hg w8 hbox hb; have n0_ := mz (below_step (by repeat (first | (with_reducible first | exact HB.out | apply below_alloc | apply pw_below_drewN | apply below_drew1) | exact HB.out)) hb); have n1_ := mz (hbox); have n2_ := mz ((by rw [hg]; exact (below_size (by repeat (first | (with_reducible first | exact HB.out | apply below_alloc | apply pw_below_drewN | apply below_drew1) | exact HB.out))) : w.heap.size ≤ gb101)); have n3_ := mz ((by rw [hg]; exact (below_size (by repeat (first | (with_reducible first | exact HB.out | apply below_alloc | apply pw_below_drewN | apply below_drew1) | exact HB.out))) : w.heap.size ≤ gb101)); clear HB; have HB := n0_; have BK101 := n1_; have GW101 := n2_; have GE101 := n3_; clear n0_ n1_ n2_ n3_; clear hb hbox hg; have hcz9_0 : w8.cell? ⟨gb101, 0, none⟩ = some (.slice A0_0 l0_0.length c0_0) := (blk_cell BK101.out 0).trans rfl; have hfz9_0 := blk_frozen BK101.out 0) | ((with_reducible refine gate_callee (f := 23) rfl ?_); refine goesL_ (some 8) rfl rfl Try.func23 (by kernel_rfl) rfl #[.slice A0_0 l0_0.length c0_0, .int .i64 a1] rfl (by (try simp only [List.map_toArray, List.map_cons, List.map_nil]); first | done | rfl | (simp only [List.length_drop, List.length_take]; rfl)) ?_; (with_reducible refine (laws_heldAtomS.calls k _ _ l0_0 a1 t102 _ ?side1 ?side2 A3.out).mono ?_); (case side1 => repeat (first | exact (Kd.C_below HR0_0.out HB.out) | (with_reducible refine Kd.C_alloc ?_ _) | (with_reducible refine Kd.C_drewN ?_ _) | (with_reducible refine Kd.C_drew ?_))); (case side2 => exact HC0_0.out); rintro e w10 ⟨rfl, hb⟩; refine ⟨_, rfl, ?_⟩; have n0_ := mz (blk_below (g := gb101) (o := .cells #[.slice A0_0 l0_0.length c0_0] 28 (0, 0)) (by (with_reducible repeat (first | refine blk_drewN ?_ _ | refine blk_drew ?_ | refine blk_alloc ?_ _)); exact BK101.out) hb); have n1_ := mz (below_step (by repeat (first | (with_reducible first | exact HB.out | apply below_alloc | apply pw_below_drewN | apply below_drew1 | refine below_set ?_ GE101.out) | exact HB.out)) hb); clear BK101; clear HB; have BK101 := n0_; have HB := n1_; clear n0_ n1_; (try clear hb); (try clear hb2); (try clear hk); (try clear hi)))
    go_ret
    exact ⟨by first | rfl | (simp [errW_none, errW_some] <;> rfl) | (simp [*, errW_none, errW_some] <;> rfl), by repeat (first | (with_reducible first | exact HB.out | apply below_alloc | apply pw_below_drewN | apply below_drew1 | refine below_set ?_ GE101.out) | exact HB.out)⟩
end
noncomputable def markA (n : Int) : Atom := ⟨n, n + 1, n + 2, n + 3, mtext (n + 4), Int.tmod (n + 5) 3 == 0⟩
noncomputable def amarks (n : Int) (m : Nat) : List Atom := (List.range m).map fun i => markA (n + 6 * (i : Nat))
theorem amarks_length (k : Int) (n : Nat) : (amarks k n).length = n := by simp [amarks]
theorem amarks_get (k : Int) (n i : Nat) (h : i < (amarks k n).length) : (amarks k n)[i] = markA (k + 6 * (i : Nat)) := by simp [amarks]
theorem rd_set_atom (l : List Atom) (i : Nat) (v : Atom) (h : i < l.length) : rd_T41 (l.set i v) (i : Int) = v := by
  simp [rd_T41, h]
theorem markAtomS_loop (n : Int) (h0 : 0 ≤ n) (d : Nat) : ∀ (i : Nat) (l : List Atom), i + d = l.length → n + 6 * l.length ≤ 1000000000 → l.take i = (amarks n l.length).take i →
    Ev (fun k => laws_markAtomS.l0 k l (n + 6 * (i : Int)) (i : Int)) (n + 6 * (l.length : Int), amarks n l.length) := by
  induction d with
  | zero =>
    intro i l h hb ht
    refine Ev.succ ?_
    simp only [laws_markAtomS.l0, if_neg (show ¬ ((i : Int) < (l.length : Int)) by omega)]
    refine ev_eq (Ev.now _) ?_
    rw [List.take_of_length_le (by omega), List.take_of_length_le (by rw [amarks_length]; omega)] at ht
    rw [← ht, show (i : Int) = (l.length : Int) by omega]
  | succ d ih =>
    intro i l h hb ht
    refine Ev.succ ?_
    have hi : i < l.length := by omega
    obtain ⟨m, hm⟩ : ∃ m, m = n + 6 * (i : Int) := ⟨_, rfl⟩
    have e1 : wrap64 (m + 1) = m + 1 := w64 (by omega) (by omega)
    have e2 : wrap64 (m + 1 + 1) = m + 2 := by rw [w64 (by omega) (by omega)]; omega
    have e3 : wrap64 (m + 2 + 1) = m + 3 := by rw [w64 (by omega) (by omega)]; omega
    have e4 : wrap64 (m + 3 + 1) = m + 4 := by rw [w64 (by omega) (by omega)]; omega
    have e5 : wrap64 (m + 4 + 1) = m + 5 := by rw [w64 (by omega) (by omega)]; omega
    have e6 : wrap64 (m + 5 + 1) = m + 6 := by rw [w64 (by omega) (by omega)]; omega
    rw [← hm]
    simp only [laws_markAtomS.l0, if_pos (show ((i : Int) < (l.length : Int)) by omega), if_pos (show (0 : Int) ≤ i by omega), Int.toNat_natCast, Option.bind_some, e1, e2, e3, e4, e5, e6, w64 (show -9223372036854775808 ≤ (i : Int) + 1 by omega) (by omega), rd_set_atom _ i _ hi, List.set_set]
    refine Ev.bind (mtext_ev (m + 4) (by omega)) ?_
    have := ih (i + 1) (l.set i (markA m)) (by simp; omega) (by simpa using hb) ?_
    · rw [List.length_set] at this
      rw [show m + 6 = n + 6 * ((i + 1 : Nat) : Int) by omega, show (i : Int) + 1 = ((i + 1 : Nat) : Int) by omega]
      exact this
    · rw [List.length_set, List.take_succ_eq_append_getElem (by simp; omega), List.take_succ_eq_append_getElem (by rw [amarks_length]; omega), List.take_set_of_le (by omega), ht, amarks_get]
      simp [hm]
theorem markSeq_ev (l : List Atom) (n : Int) (h0 : 0 ≤ n) (hb : n + 6 * l.length ≤ 1000000000) : Ev (fun k => laws_markSeq.f k l n) (n + 6 * (l.length : Int), amarks n l.length) := by
  have := markAtomS_loop n h0 l.length 0 l (by omega) hb (by simp)
  unfold laws_markSeq.f
  refine Ev.bind (a := (n + 6 * (l.length : Int), amarks n l.length)) ?_ (Ev.now _)
  simpa [laws_markAtomS.f] using this
theorem heldAtomS_loop (n : Int) (h0 : 0 ≤ n) (m : Nat) (hb : n + 6 * m ≤ 1000000000) (d : Nat) : ∀ (i : Nat), i + d = m →
    Ev (fun k => laws_heldAtomS.l0 k (amarks n m) (n + 6 * (i : Int)) (i : Int)) (n + 6 * (m : Int)) := by
  induction d with
  | zero =>
    intro i h
    refine Ev.succ ?_
    simp only [laws_heldAtomS.l0, amarks_length, if_neg (show ¬ ((i : Int) < (m : Int)) by omega)]
    refine ev_eq (Ev.now _) ?_
    omega
  | succ d ih =>
    intro i h
    refine Ev.succ ?_
    obtain ⟨q, hq⟩ : ∃ q, q = n + 6 * (i : Int) := ⟨_, rfl⟩
    have e1 : wrap64 (q + 1) = q + 1 := w64 (by omega) (by omega)
    have e2 : wrap64 (q + 1 + 1) = q + 2 := by rw [w64 (by omega) (by omega)]; omega
    have e3 : wrap64 (q + 2 + 1) = q + 3 := by rw [w64 (by omega) (by omega)]; omega
    have e4 : wrap64 (q + 3 + 1) = q + 4 := by rw [w64 (by omega) (by omega)]; omega
    have e5 : wrap64 (q + 4 + 1) = q + 5 := by rw [w64 (by omega) (by omega)]; omega
    have e6 : wrap64 (q + 5 + 1) = q + 6 := by rw [w64 (by omega) (by omega)]; omega
    rw [← hq]
    simp only [laws_heldAtomS.l0, amarks_length, if_pos (show ((i : Int) < (m : Int)) by omega), if_pos (show (0 : Int) ≤ i by omega), rd_atom (amarks n m) i (by rw [amarks_length]; omega), amarks_get, ← hq, markA, if_true, e1, e2, e3, e4, e5, e6, w64 (show -9223372036854775808 ≤ (i : Int) + 1 by omega) (by omega)]
    refine Ev.bind (mtext_ev (q + 4) (by omega)) ?_
    simp only [if_true, bne_self_eq_false, Bool.false_eq_true, if_false]
    rw [show q + 6 = n + 6 * ((i + 1 : Nat) : Int) by omega, show (i : Int) + 1 = ((i + 1 : Nat) : Int) by omega]
    exact ih (i + 1) (by omega)
theorem heldSeq_ev (n : Int) (m : Nat) (h0 : 0 ≤ n) (hb : n + 6 * m ≤ 1000000000) : Ev (fun k => laws_heldSeq.f k (amarks n m) n) (n + 6 * (m : Int)) := by
  have := heldAtomS_loop n h0 m hb m 0 (by omega)
  unfold laws_heldSeq.f
  refine Ev.bind (a := n + 6 * (m : Int)) (by simpa [laws_heldAtomS.f] using this) ?_
  simp only [if_neg (show ¬ (n + 6 * (m : Int) < 0) by omega)]
  exact Ev.now _
end Go.Proofs.Ytejilfaioooabaa.X
