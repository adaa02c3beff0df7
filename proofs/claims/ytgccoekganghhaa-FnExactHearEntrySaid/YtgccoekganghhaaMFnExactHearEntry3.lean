/- The law FnExactHearEntry of the program: its proof, part 3. -/
import Derived.Test.YtgccoekganghhaaMFnExactHearEntry2
import Derived.Deep.RegionHeld3
import Derived.Deep.DrawnRows
import Derived.Deep.RegionWith
import Derived.Deep.DeepCutAuto
import Derived.WalkSpells
set_option linter.unusedVariables false
set_option linter.unusedSimpArgs false
namespace Go.Proofs.Ytgccoekganghhaa.X
open Go.RowKit Go.Proofs.YtgccoekganghhaaW.PrintWords Go.Proofs.YtgccoekganghhaaW.PrintLast Go.Proofs.YtgccoekganghhaaW.PrintMore
section
attribute [local go_sem] max2_int min2_int max_two min_two max_three min_three max_four min_four
def impl_isEntry.f (k : Nat) (a0_0 : Int) (a0_1 : Int) (l0_2 : List (S86)) : Option (Bool) := if a0_0 ≥ 0 then (if a0_0 ≤ 9 then (if a0_1 ≥ 1 then (if a0_1 ≤ 1000 then ((impl_GoodOp.f k l0_2).bind fun t102 => (some t102)) else (some false)) else (some false)) else (some false)) else (some false)
set_option maxHeartbeats 8000000 in
set_option maxRecDepth 100000 in
theorem impl_isEntry.calls (k : Nat) (a0_0 : Int) (a0_1 : Int) (A0_2 : Option Addr) (c0_2 : Nat) (l0_2 : List (S86)) (r : Bool) (w : World) (hr0_2 : Kd.C k86 w A0_2 l0_2.length l0_2) (hc0_2 : l0_2.length ≤ c0_2) (h : impl_isEntry.f k a0_0 a0_1 l0_2 = some r) :
  Calls Try.prog 74 #[.agg #[.int .i64 a0_0, .int .i64 a0_1, .slice A0_2 l0_2.length c0_2]] w fun e w' => e = .returned (.bool r) ∧ Below w.heap.size w w' := by
 have hu57 := Try.underlying57
 have HR0_2 := mz hr0_2
 have HC0_2 := mz hc0_2
 clear hr0_2 hc0_2
 have HB := mz (Below.refl w.heap.size w)
 have H : (if a0_0 ≥ 0 then (if a0_0 ≤ 9 then (if a0_1 ≥ 1 then (if a0_1 ≤ 1000 then ((impl_GoodOp.f k l0_2).bind fun t102 => (some t102)) else (some false)) else (some false)) else (some false)) else (some false)) = some r := h
 clear h
 by_cases c2 : a0_0 ≥ 0
 ·rw [if_pos c2] at H
  have c2b0 : decide (0 ≤ a0_0) = true := decide_eq_true c2
  clear c2
  by_cases c3 : a0_0 ≤ 9
  ·rw [if_pos c3] at H
   have c3b0 : decide (a0_0 ≤ 9) = true := decide_eq_true c3
   clear c3
   by_cases c4 : a0_1 ≥ 1
   ·rw [if_pos c4] at H
    have c4b0 : decide (1 ≤ a0_1) = true := decide_eq_true c4
    clear c4
    by_cases c5 : a0_1 ≤ 1000
    ·rw [if_pos c5] at H
     have c5b0 : decide (a0_1 ≤ 1000) = true := decide_eq_true c5
     clear c5
     replace H := be0_ H
     obtain ⟨t102, A60, H⟩ := H
     replace H : (some t102) = some r := H
     have A6 := mz A60
     clear A60
     obtain rfl := Option.some.inj H
     go_enter Try.func74, Try.ntmps74
     go_wp2_with (first | ((with_reducible refine gate_dst (N := 1) rfl ?_); refine bz_ 1 #[.int .i64 a0_0, .int .i64 a0_1, .slice A0_2 l0_2.length c0_2] 57 ?_; intro gb101 hg w7 hbox hb; have n0_ := mz (bs0_ hb); have n1_ := mz (hbox); have n2_ := mz ((by rw [hg]; exact bz1_ : w.heap.size ≤ gb101)); have n3_ := mz ((by rw [hg]; exact bz1_ : w.heap.size ≤ gb101)); clear HB; have HB := n0_; have BK101 := n1_; have GW101 := n2_; have GE101 := n3_; clear n0_ n1_ n2_ n3_; clear hb hbox hg; have hcz8_0 := bk_ BK101.out 0 (.int .i64 a0_0); have hcz8_1 := bk_ BK101.out 1 (.int .i64 a0_1); have hcz8_2 := bk_ BK101.out 2 (.slice A0_2 l0_2.length c0_2); have hfz8_0 := blk_frozen BK101.out 0; have hfz8_1 := blk_frozen BK101.out 1; have hfz8_2 := blk_frozen BK101.out 2) | (go_at_call 104; (with_reducible refine (impl_GoodOp.calls k _ _ l0_2 t102 _ ?side1 ?side2 A6.out).mono ?_); (case side1 => repeat (first | exact (Kd.C_below HR0_2.out HB.out) | (with_reducible refine Kd.C_alloc ?_ _) | (with_reducible refine Kd.C_drewN ?_ _) | (with_reducible refine Kd.C_drew ?_))); (case side2 => exact HC0_2.out); rintro e w9 ⟨rfl, hb⟩; have n0_ := mz (blk_below (g := gb101) (o := .cells #[.int .i64 a0_0, .int .i64 a0_1, .slice A0_2 l0_2.length c0_2] 57 (0, 0)) a14_ hb); have n1_ := mz (bs2_ hb); clear BK101; clear HB; have BK101 := n0_; have HB := n1_; clear n0_ n1_; (try clear hb); (try clear hb2); (try clear hk); (try clear hi)))
     go_ret
     exact ⟨a27_, a8_⟩
    ·rw [if_neg c5] at H
     have c5b0 : decide (a0_1 ≤ 1000) = false := decide_eq_false c5
     clear c5
     obtain rfl := Option.some.inj H
     go_enter Try.func74, Try.ntmps74
     go_wp2_with (first | ((with_reducible refine gate_dst (N := 1) rfl ?_); refine bz_ 1 #[.int .i64 a0_0, .int .i64 a0_1, .slice A0_2 l0_2.length c0_2] 57 ?_; intro gb101 hg w10 hbox hb; have n0_ := mz (bs0_ hb); have n1_ := mz (hbox); have n2_ := mz ((by rw [hg]; exact bz1_ : w.heap.size ≤ gb101)); have n3_ := mz ((by rw [hg]; exact bz1_ : w.heap.size ≤ gb101)); clear HB; have HB := n0_; have BK101 := n1_; have GW101 := n2_; have GE101 := n3_; clear n0_ n1_ n2_ n3_; clear hb hbox hg; have hcz11_0 := bk_ BK101.out 0 (.int .i64 a0_0); have hcz11_1 := bk_ BK101.out 1 (.int .i64 a0_1); have hcz11_2 := bk_ BK101.out 2 (.slice A0_2 l0_2.length c0_2); have hfz11_0 := blk_frozen BK101.out 0; have hfz11_1 := blk_frozen BK101.out 1; have hfz11_2 := blk_frozen BK101.out 2))
     go_ret
     exact ⟨a27_, a8_⟩
   ·rw [if_neg c4] at H
    have c4b0 : decide (1 ≤ a0_1) = false := decide_eq_false c4
    clear c4
    obtain rfl := Option.some.inj H
    go_enter Try.func74, Try.ntmps74
    go_wp2_with (first | ((with_reducible refine gate_dst (N := 1) rfl ?_); refine bz_ 1 #[.int .i64 a0_0, .int .i64 a0_1, .slice A0_2 l0_2.length c0_2] 57 ?_; intro gb101 hg w12 hbox hb; have n0_ := mz (bs0_ hb); have n1_ := mz (hbox); have n2_ := mz ((by rw [hg]; exact bz1_ : w.heap.size ≤ gb101)); have n3_ := mz ((by rw [hg]; exact bz1_ : w.heap.size ≤ gb101)); clear HB; have HB := n0_; have BK101 := n1_; have GW101 := n2_; have GE101 := n3_; clear n0_ n1_ n2_ n3_; clear hb hbox hg; have hcz13_0 := bk_ BK101.out 0 (.int .i64 a0_0); have hcz13_1 := bk_ BK101.out 1 (.int .i64 a0_1); have hcz13_2 := bk_ BK101.out 2 (.slice A0_2 l0_2.length c0_2); have hfz13_0 := blk_frozen BK101.out 0; have hfz13_1 := blk_frozen BK101.out 1; have hfz13_2 := blk_frozen BK101.out 2))
    go_ret
    exact ⟨a27_, a8_⟩
  ·rw [if_neg c3] at H
   have c3b0 : decide (a0_0 ≤ 9) = false := decide_eq_false c3
   clear c3
   obtain rfl := Option.some.inj H
   go_enter Try.func74, Try.ntmps74
   go_wp2_with (first | ((with_reducible refine gate_dst (N := 1) rfl ?_); refine bz_ 1 #[.int .i64 a0_0, .int .i64 a0_1, .slice A0_2 l0_2.length c0_2] 57 ?_; intro gb101 hg w14 hbox hb; have n0_ := mz (bs0_ hb); have n1_ := mz (hbox); have n2_ := mz ((by rw [hg]; exact bz1_ : w.heap.size ≤ gb101)); have n3_ := mz ((by rw [hg]; exact bz1_ : w.heap.size ≤ gb101)); clear HB; have HB := n0_; have BK101 := n1_; have GW101 := n2_; have GE101 := n3_; clear n0_ n1_ n2_ n3_; clear hb hbox hg; have hcz15_0 := bk_ BK101.out 0 (.int .i64 a0_0); have hcz15_1 := bk_ BK101.out 1 (.int .i64 a0_1); have hcz15_2 := bk_ BK101.out 2 (.slice A0_2 l0_2.length c0_2); have hfz15_0 := blk_frozen BK101.out 0; have hfz15_1 := blk_frozen BK101.out 1; have hfz15_2 := blk_frozen BK101.out 2))
   go_ret
   exact ⟨a27_, a8_⟩
 ·rw [if_neg c2] at H
  have c2b0 : decide (0 ≤ a0_0) = false := decide_eq_false c2
  clear c2
  obtain rfl := Option.some.inj H
  go_enter Try.func74, Try.ntmps74
  go_wp2_with (first | ((with_reducible refine gate_dst (N := 1) rfl ?_); refine bz_ 1 #[.int .i64 a0_0, .int .i64 a0_1, .slice A0_2 l0_2.length c0_2] 57 ?_; intro gb101 hg w16 hbox hb; have n0_ := mz (bs0_ hb); have n1_ := mz (hbox); have n2_ := mz ((by rw [hg]; exact bz1_ : w.heap.size ≤ gb101)); have n3_ := mz ((by rw [hg]; exact bz1_ : w.heap.size ≤ gb101)); clear HB; have HB := n0_; have BK101 := n1_; have GW101 := n2_; have GE101 := n3_; clear n0_ n1_ n2_ n3_; clear hb hbox hg; have hcz17_0 := bk_ BK101.out 0 (.int .i64 a0_0); have hcz17_1 := bk_ BK101.out 1 (.int .i64 a0_1); have hcz17_2 := bk_ BK101.out 2 (.slice A0_2 l0_2.length c0_2); have hfz17_0 := blk_frozen BK101.out 0; have hfz17_1 := blk_frozen BK101.out 1; have hfz17_2 := blk_frozen BK101.out 2))
  go_ret
  exact ⟨a27_, a8_⟩
end
section
attribute [local go_sem] max2_int min2_int max_two min_two max_three min_three max_four min_four

end
abbrev Entry := S57
def entryB (e : Entry) : Bool := decide (0 ≤ e.f0) && decide (e.f0 ≤ 9) && decide (1 ≤ e.f1) && decide (e.f1 ≤ 1000) && opB e.f2
theorem entryB_of {e : Entry} (h : entryB e = true) : 0 ≤ e.f0 ∧ e.f0 ≤ 9 ∧ 1 ≤ e.f1 ∧ e.f1 ≤ 1000 ∧ opB e.f2 = true := by
 simp only [entryB, Bool.and_eq_true, decide_eq_true_eq] at h
 exact ⟨h.1.1.1.1, h.1.1.1.2, h.1.1.2, h.1.2, h.2⟩
theorem isEntry_ev (e : Entry) (hs : sizedP e.f2 = true) : Ev (fun k => impl_isEntry.f k e.f0 e.f1 e.f2) (entryB e) := by
 unfold impl_isEntry.f entryB
 by_cases a : 0 ≤ e.f0
 ·simp only [if_pos (show e.f0 ≥ 0 from a), decide_eq_true a]
  by_cases b : e.f0 ≤ 9
  ·simp only [if_pos b, decide_eq_true b]
   by_cases c : 1 ≤ e.f1
   ·simp only [if_pos (show e.f1 ≥ 1 from c), decide_eq_true c]
    by_cases d : e.f1 ≤ 1000
    ·simp only [if_pos d, decide_eq_true d, Bool.true_and, Bool.and_self]
     exact Ev.bind (implGoodOp_ev e.f2 hs) (Ev.now _)
    ·simp only [if_neg d, decide_eq_false d, Bool.and_false, Bool.false_and]; exact Ev.now _
   ·simp only [if_neg (show ¬ e.f1 ≥ 1 from c), decide_eq_false c, Bool.and_false, Bool.false_and]; exact Ev.now _
  ·simp only [if_neg b, decide_eq_false b, Bool.and_false, Bool.false_and]; exact Ev.now _
 ·simp only [if_neg (show ¬ e.f0 ≥ 0 from a), decide_eq_false a, Bool.false_and]; exact Ev.now _
theorem l1In_val (n lo hi : Int) : spec_l1In.f n lo hi = some (decide (lo ≤ n) && decide (n ≤ hi)) := by
 unfold spec_l1In.f
 by_cases a : lo ≤ n
 ·simp only [if_pos (show n ≥ lo from a), decide_eq_true a, Bool.true_and]
 ·simp only [if_neg (show ¬ n ≥ lo from a), decide_eq_false a, Bool.false_and]
theorem specEntry_ev (e : Entry) (hs : sizedP e.f2 = true) : Ev (fun k => spec_l15Entry.f k e.f0 e.f1 e.f2) (entryB e) := by
 unfold spec_l15Entry.f entryB
 simp only [l1In_val, Option.bind_some]
 cases a : (decide (0 ≤ e.f0) && decide (e.f0 ≤ 9)) with
 | false => simp only [Bool.false_eq_true, if_false, Bool.false_and]; exact Ev.now _
 | true =>
  simp only [if_true, Bool.true_and]
  cases b : (decide (1 ≤ e.f1) && decide (e.f1 ≤ 1000)) with
  | false => simp only [Bool.false_eq_true, if_false, Bool.false_and]; exact Ev.now _
  | true =>
   simp only [if_true, Bool.true_and]
   exact Ev.bind (specGoodOp_ev e.f2 hs) (Ev.now _)

def lastB (c : Int) (l : List Entry) (m : Int) : Int := l.foldl (fun m e => if e.f0 = c then mx m e.f1 else m) m
section
variable {P : Program} {ops : Array Oper} {rest : List Oper} {o : Oper} {a a' : Act} {Q : Exit → Act → World → Prop} {W : World}
theorem bx (N : Tmp) (cs : Array Value) (t : TypeId)
  (h : ∀ g, g = W.heap.size → ∀ w1, w1.heap[g]? = some (.cells cs t (0, 0)) → Below W.heap.size W w1 → wpList P ops Q rest (a.put o.dst (.pointer (some ⟨g, 0, none⟩))) w1)
  (hd : o.dst = some N := by rfl) (hgd : o.guard = none := by rfl)
  (hrun : (execOp a.eval o).run P W = .ok (.value (.pointer (some ⟨W.heap.size, 0, none⟩))) (W.alloc (.cells cs t (0, 0))) := by first | (go_simp; done) | (go_simp; rfl)) : wpList P ops Q (o :: rest) a W :=
 box_event hgd hd hrun h
end
section
variable {P : Program} {ops : Array Oper} {Q : Exit → Act → World → Prop} {md : Region.Mode} {S : World → Prop} {fuel : Nat} {listed : Array Bool} {a a' : Act} {w : World} {oi : Oper}
theorem tF (i : Nat) {G : World → Prop} {v : Value} (F : ∀ w, S w → G w)
  (h : wpAnyH P md ops Q S fuel (listed.setIfInBounds i true) a' w) (hi : ops[i]? = some oi := by rfl) (hs : Region.noSelect ops = true := by kernel_rfl) (hf : Region.free md ops listed i = true := by kernel_rfl) (hr : (Region.ready md ops listed).contains i = true := by kernel_rfl)
  (hw : Region.wanted oi (yielded ops a.tmps) = true := by rfl) (hS : S w := by assumption)
  (hy : ∀ w, G w → (execOp a.eval oi).run P w = .ok (.value v) w := by (intro w hSw; (try dsimp only at hSw); go_simp; (try with_reducible rfl)))
  (hQ : ∀ c a w, Q (.panic c) (a.put oi.dst v) w → Q (.panic c) a w := by exact fun _ _ _ h => h)
  (ha : a.put oi.dst v = a' := by (simp only [Act.put, List.getElem_toArray, List.getElem_cons_succ, List.getElem_cons_zero, List.setIfInBounds_toArray, List.set_cons_zero, List.set_cons_succ]; rfl)) : wpAnyH P md ops Q S (fuel + 1) listed a w :=
 wpAnyH_take hi hs hf hr hQ (Or.inl ⟨hw, fun w hw => hy w (F w hw)⟩) hS (ha ▸ h)
theorem tC (i : Nat) {f : FuncId} {vs : Array Value} {T : Ending → World → Prop} (hc : Calls P f vs w T)
  (h : ∀ e w', T e w' → ∃ v, e = .returned v ∧ S w' ∧ ∀ a', a.put oi.dst v = a' → (S w' → wpAnyH P md ops Q S fuel (listed.setIfInBounds i true) a' w'))
  (hi : ops[i]? = some oi := by rfl) (hr : Region.ready md ops listed = [i] := by kernel_rfl)
  (hw : Region.wanted oi (yielded ops a.tmps) = true := by rfl)
  (hrun : (execOp a.eval oi).run P w = .ok (.enter f vs) w := by (first | kernel_rfl | (go_simp; rfl))) : wpAnyH P md ops Q S (fuel + 1) listed a w := by
 refine wpAnyH_ready hr (by simp) (AllReadyH.cons hi (fun K hK => ?_) AllReadyH.nil)
 rw [if_pos hw]
 unfold Oper.wp
 rw [hrun, Oper.upon_enter]
 refine hc.mono fun e w' hT => ?_
 obtain ⟨v, rfl, hS, hn⟩ := h e w' hT
 exact hK.out _ _ hS (hn _ rfl)
end
theorem cells3 {w : World} {g : Nat} {t : TypeId} {a b c : Value} (h : w.heap[g]? = some (.cells #[a, b, c] t (0, 0))) : w.cell? ⟨g, 0, none⟩ = some a ∧ w.cell? ⟨g, 1, none⟩ = some b ∧ w.cell? ⟨g, 2, none⟩ = some c := ⟨(blk_cell h 0).trans rfl, (blk_cell h 1).trans rfl, (blk_cell h 2).trans rfl⟩
theorem cells8 {w : World} {g : Nat} {t : TypeId} {a b c d e f i j : Value} (h : w.heap[g]? = some (.cells #[a, b, c, d, e, f, i, j] t (0, 0))) :
  w.cell? ⟨g, 0, none⟩ = some a ∧ w.cell? ⟨g, 1, none⟩ = some b ∧ w.cell? ⟨g, 2, none⟩ = some c ∧ w.cell? ⟨g, 3, none⟩ = some d ∧ w.cell? ⟨g, 4, none⟩ = some e ∧ w.cell? ⟨g, 5, none⟩ = some f ∧ w.cell? ⟨g, 6, none⟩ = some i ∧ w.cell? ⟨g, 7, none⟩ = some j :=
 ⟨(blk_cell h 0).trans rfl, (blk_cell h 1).trans rfl, (blk_cell h 2).trans rfl, (blk_cell h 3).trans rfl, (blk_cell h 4).trans rfl, (blk_cell h 5).trans rfl, (blk_cell h 6).trans rfl, (blk_cell h 7).trans rfl⟩
theorem froz3 {w : World} {g : Nat} {t : TypeId} {cs : Array Value} (h : w.heap[g]? = some (.cells cs t (0, 0))) : w.frozen? ⟨g, 0, none⟩ = false ∧ w.frozen? ⟨g, 1, none⟩ = false ∧ w.frozen? ⟨g, 2, none⟩ = false := ⟨blk_frozen h 0, blk_frozen h 1, blk_frozen h 2⟩
theorem froz8 {w : World} {g : Nat} {t : TypeId} {cs : Array Value} (h : w.heap[g]? = some (.cells cs t (0, 0))) : w.frozen? ⟨g, 0, none⟩ = false ∧ w.frozen? ⟨g, 1, none⟩ = false ∧ w.frozen? ⟨g, 2, none⟩ = false ∧ w.frozen? ⟨g, 3, none⟩ = false ∧ w.frozen? ⟨g, 4, none⟩ = false ∧ w.frozen? ⟨g, 5, none⟩ = false ∧ w.frozen? ⟨g, 6, none⟩ = false ∧ w.frozen? ⟨g, 7, none⟩ = false :=
 ⟨blk_frozen h 0, blk_frozen h 1, blk_frozen h 2, blk_frozen h 3, blk_frozen h 4, blk_frozen h 5, blk_frozen h 6, blk_frozen h 7⟩
theorem fill3 {w w3 : World} {g : Nat} {t : TypeId} {z0 z1 z2 v0 v1 v2 : Value} (hb : Below w.heap.size w w3) (hg : w.heap.size ≤ g) (h : w3.heap[g]? = some (.cells #[z0, z1, z2] t (0, 0))) :
  (((w3.setCell ⟨g, 0, none⟩ v0).setCell ⟨g, 1, none⟩ v1).setCell ⟨g, 2, none⟩ v2).heap[g]? = some (.cells #[v0, v1, v2] t (0, 0)) ∧ Below w.heap.size w (((w3.setCell ⟨g, 0, none⟩ v0).setCell ⟨g, 1, none⟩ v1).setCell ⟨g, 2, none⟩ v2) :=
 ⟨blk_put (cs' := #[v0, v1, v2]) (blk_put (cs' := #[v0, v1, z2]) (blk_put (cs' := #[v0, z1, z2]) h 0 v0 rfl) 1 v1 rfl) 2 v2 rfl, below_set (below_set (below_set hb hg) hg) hg⟩
theorem fill8 {w w3 : World} {g : Nat} {t : TypeId} {z0 z1 z2 z3 z4 z5 z6 z7 v0 v1 v2 v3 v4 v5 v6 v7 : Value} (hb : Below w.heap.size w w3) (hg : w.heap.size ≤ g) (h : w3.heap[g]? = some (.cells #[z0, z1, z2, z3, z4, z5, z6, z7] t (0, 0))) :
    ((((((((w3.setCell ⟨g, 0, none⟩ v0).setCell ⟨g, 1, none⟩ v1).setCell ⟨g, 2, none⟩ v2).setCell ⟨g, 3, none⟩ v3).setCell ⟨g, 4, none⟩ v4).setCell ⟨g, 5, none⟩ v5).setCell ⟨g, 6, none⟩ v6).setCell ⟨g, 7, none⟩ v7).heap[g]? = some (.cells #[v0, v1, v2, v3, v4, v5, v6, v7] t (0, 0)) ∧
    Below w.heap.size w ((((((((w3.setCell ⟨g, 0, none⟩ v0).setCell ⟨g, 1, none⟩ v1).setCell ⟨g, 2, none⟩ v2).setCell ⟨g, 3, none⟩ v3).setCell ⟨g, 4, none⟩ v4).setCell ⟨g, 5, none⟩ v5).setCell ⟨g, 6, none⟩ v6).setCell ⟨g, 7, none⟩ v7) :=
  ⟨blk_put (cs' := #[v0, v1, v2, v3, v4, v5, v6, v7]) (blk_put (cs' := #[v0, v1, v2, v3, v4, v5, v6, z7]) (blk_put (cs' := #[v0, v1, v2, v3, v4, v5, z6, z7]) (blk_put (cs' := #[v0, v1, v2, v3, v4, z5, z6, z7]) (blk_put (cs' := #[v0, v1, v2, v3, z4, z5, z6, z7]) (blk_put (cs' := #[v0, v1, v2, z3, z4, z5, z6, z7]) (blk_put (cs' := #[v0, v1, z2, z3, z4, z5, z6, z7]) (blk_put (cs' := #[v0, z1, z2, z3, z4, z5, z6, z7]) h 0 v0 rfl) 1 v1 rfl) 2 v2 rfl) 3 v3 rfl) 4 v4 rfl) 5 v5 rfl) 6 v6 rfl) 7 v7 rfl,
   below_set (below_set (below_set (below_set (below_set (below_set (below_set (below_set hb hg) hg) hg) hg) hg) hg) hg) hg⟩
section
variable {P : Program} {ops : Array Oper} {Q : Exit → Act → World → Prop} {md : Region.Mode} {S : World → Prop} {fuel : Nat} {listed : Array Bool} {a a' : Act} {w : World} {oi : Oper}
theorem tB (i : Nat) (cs : Array Value) (t : TypeId)
  (h : ∀ g, g = w.heap.size → ∀ w1, w1.heap[g]? = some (.cells cs t (0, 0)) → Below w.heap.size w w1 → S w1 ∧ ∀ a', a.put oi.dst (.pointer (some ⟨g, 0, none⟩)) = a' → (S w1 → wpAnyH P md ops Q S fuel (listed.setIfInBounds i true) a' w1))
  (hi : ops[i]? = some oi := by rfl) (hr : Region.ready md ops listed = [i] := by kernel_rfl)
  (hw : Region.wanted oi (yielded ops a.tmps) = true := by rfl)
  (hrun : (execOp a.eval oi).run P w = .ok (.value (.pointer (some ⟨w.heap.size, 0, none⟩))) (w.alloc (.cells cs t (0, 0))) := by (first | (go_simp; done) | (go_simp; rfl))) : wpAnyH P md ops Q S (fuel + 1) listed a w := by
 refine wpAnyH_ready hr (by simp) (AllReadyH.cons hi (fun K hK => ?_) AllReadyH.nil)
 rw [if_pos hw]
 unfold Oper.wp
 rw [hrun, Oper.upon_value]
 obtain ⟨hS, hn⟩ := h _ rfl _ (blk_new w _) (below_alloc (Below.refl _ _) _)
 exact hK.out _ _ hS (hn _ rfl)
theorem tS (i : Nat) {w1 : World}
  (hS : S w1)
  (h : S w1 → wpAnyH P md ops Q S fuel (listed.setIfInBounds i true) a w1)
  (hi : ops[i]? = some oi := by rfl) (hr : Region.ready md ops listed = [i] := by kernel_rfl)
  (hw : Region.wanted oi (yielded ops a.tmps) = true := by rfl) (hd : oi.dst = none := by rfl)
  (hrun : (execOp a.eval oi).run P w = .ok .skip w1 := by (first | (go_simp; done) | (go_simp; rfl))) : wpAnyH P md ops Q S (fuel + 1) listed a w := by
 refine wpAnyH_ready hr (by simp) (AllReadyH.cons hi (fun K hK => ?_) AllReadyH.nil)
 rw [if_pos hw]
 unfold Oper.wp
 rw [hrun, Oper.upon_skip, hd]
 exact hK.out _ _ hS h
end

end Go.Proofs.Ytgccoekganghhaa.X
namespace Go.Proofs.Ytgccoekganghhaa.X
open Go.RowKit Go.Proofs.YtgccoekganghhaaW.PrintWords Go.Proofs.YtgccoekganghhaaW.PrintLast Go.Proofs.YtgccoekganghhaaW.PrintMore
abbrev Client := S45
def tailC (y : Client) : Bool := (y.f4 || decide (y.f5.length = 0)) && (y.f7 || decide (y.f6.length = 0)) && (!y.f4 || decide (0 < y.f3)) && (!y.f7 || y.f4)
def clientB (y : Client) : Bool := decide (0 ≤ y.f0) && decide (y.f0 ≤ 3) && textB y.f1 && decide (0 ≤ y.f2) && decide (y.f2 ≤ 1000) && decide (0 ≤ y.f3) && decide (y.f3 ≤ 1000) && opB y.f5 && opB y.f6 && tailC y
theorem clientB_parts (i : Int) (t : ByteArray) (v q : Int) (b : Bool) (s5 s6 : List Part) (d : Bool) : clientB ⟨i, t, v, q, b, s5, s6, d⟩ =
  ((decide (0 ≤ i) && decide (i ≤ 3)) && (textB t && ((decide (0 ≤ v) && decide (v ≤ 1000)) && ((decide (0 ≤ q) && decide (q ≤ 1000)) && ((opB s5 && opB s6) && tailC ⟨i, t, v, q, b, s5, s6, d⟩))))) := by
 simp only [clientB, Bool.and_assoc]
theorem clientB_of {y : Client} (h : clientB y = true) : 0 ≤ y.f0 ∧ y.f0 ≤ 3 ∧ textB y.f1 = true ∧ 0 ≤ y.f2 ∧ y.f2 ≤ 1000 ∧ 0 ≤ y.f3 ∧ y.f3 ≤ 1000 ∧ opB y.f5 = true ∧ opB y.f6 = true := by
 simp only [clientB, Bool.and_eq_true, decide_eq_true_eq] at h
 obtain ⟨⟨⟨⟨⟨⟨⟨⟨⟨h0, h1⟩, h2⟩, h3⟩, h4⟩, h5⟩, h6⟩, h7⟩, h8⟩, _⟩ := h
 exact ⟨h0, h1, h2, h3, h4, h5, h6, h7, h8⟩
set_option maxHeartbeats 8000000 in
set_option maxRecDepth 100000 in
theorem isClient_walk (i : Int) (t : ByteArray) (v q : Int) (b : Bool) (A5 : Option Addr) (c5 : Nat) (s5 : List (S86)) (A6 : Option Addr) (c6 : Nat) (s6 : List (S86)) (d : Bool) (w : World) (h5 : Kd.C k86 w A5 s5.length s5) (hc5 : s5.length ≤ c5) (h6 : Kd.C k86 w A6 s6.length s6) (hc6 : s6.length ≤ c6) (hz : t.size ≤ maxLen) (hs5 : sizedP s5 = true) (hs6 : sizedP s6 = true) :
  Calls Try.prog 65 #[.agg #[.int .i64 i, .string t, .int .i64 v, .int .i64 q, .bool b, .slice A5 s5.length c5, .slice A6 s6.length c6, .bool d]] w fun e w' => e = .returned (.bool (clientB ⟨i, t, v, q, b, s5, s6, d⟩)) ∧ Below w.heap.size w w' := by
 have H5 := mz h5
 have HC5 := mz hc5
 have H6 := mz h6
 have HC6 := mz hc6
 clear h5 hc5 h6 hc6
 obtain ⟨KT, hKT⟩ := Ev.rounds (implText_ev t hz)
 obtain ⟨K5, hK5⟩ := Ev.rounds (implGoodOp_ev s5 hs5)
 obtain ⟨K6, hK6⟩ := Ev.rounds (implGoodOp_ev s6 hs6)
 have HKT := mz hKT
 have HK5 := mz hK5
 have HK6 := mz hK6
 clear hKT hK5 hK6 hz hs5 hs6
 by_cases n0 : i < 0
 ·go_enter Try.func65, Try.ntmps65
  go_wp2_with ((with_reducible refine gate_dst (N := 1) rfl ?_); refine bx 1 #[.int .i64 i, .string t, .int .i64 v, .int .i64 q, .bool b, .slice A5 s5.length c5, .slice A6 s6.length c6, .bool d] 45 ?_; intro g hg w1 hbox hb1; have HB1 := mz hb1; have BK1 := mz hbox; obtain ⟨x0, x1, x2, x3, x4, x5, x6, x7⟩ := cells8 hbox; clear hg hbox hb1)
  have HR : Aside0 (clientB ⟨i, t, v, q, b, s5, s6, d⟩ = false) := ⟨by simp [clientB, show ¬ 0 ≤ i by omega]⟩
  go_wp2_with fail
  go_ret
  exact ⟨(by rw [HR.out]; rfl), HB1.out⟩
 by_cases n1 : i ≥ 4
 ·go_enter Try.func65, Try.ntmps65
  go_wp2_with ((with_reducible refine gate_dst (N := 1) rfl ?_); refine bx 1 #[.int .i64 i, .string t, .int .i64 v, .int .i64 q, .bool b, .slice A5 s5.length c5, .slice A6 s6.length c6, .bool d] 45 ?_; intro g hg w1 hbox hb1; have HB1 := mz hb1; have BK1 := mz hbox; obtain ⟨x0, x1, x2, x3, x4, x5, x6, x7⟩ := cells8 hbox; clear hg hbox hb1)
  have HR : Aside0 (clientB ⟨i, t, v, q, b, s5, s6, d⟩ = false) := ⟨by simp [clientB, show ¬ i ≤ 3 by omega]⟩
  go_wp2_with fail
  go_ret
  exact ⟨(by rw [HR.out]; rfl), HB1.out⟩
 go_enter Try.func65, Try.ntmps65
 go_wp2_with ((with_reducible refine gate_dst (N := 1) rfl ?_); refine bx 1 #[.int .i64 i, .string t, .int .i64 v, .int .i64 q, .bool b, .slice A5 s5.length c5, .slice A6 s6.length c6, .bool d] 45 ?_; intro g hg w1 hbox hb1; have HB1 := mz hb1; have BK1 := mz hbox; obtain ⟨x0, x1, x2, x3, x4, x5, x6, x7⟩ := cells8 hbox; clear hg hbox hb1)
 refine (impl_GoodText.calls KT t _ _ HKT.out).mono ?_
 rintro e w2 ⟨rfl, hd⟩
 have hb := hd.below
 have HB2 := mz (below_step HB1.out hb)
 have BK2 := mz (blk_below BK1.out hb)
 clear hd hb x0 x1 x2 x3 x4 x5 x6 x7
 obtain ⟨x0, x1, x2, x3, x4, x5, x6, x7⟩ := cells8 BK2.out
 cases ht : textB t with
 | false =>
  have HR : Aside0 (clientB ⟨i, t, v, q, b, s5, s6, d⟩ = false) := ⟨by simp [clientB, ht]⟩
  go_wp2_with fail
  go_ret
  exact ⟨(by rw [HR.out]; rfl), HB2.out⟩
 | true =>
  by_cases m0 : v < 0
  ·have HR : Aside0 (clientB ⟨i, t, v, q, b, s5, s6, d⟩ = false) := ⟨by simp [clientB, show ¬ 0 ≤ v by omega]⟩
   go_wp2_with fail
   go_ret
   exact ⟨(by rw [HR.out]; rfl), HB2.out⟩
  by_cases m1 : v > 1000
  ·have HR : Aside0 (clientB ⟨i, t, v, q, b, s5, s6, d⟩ = false) := ⟨by simp [clientB, show ¬ v ≤ 1000 by omega]⟩
   go_wp2_with fail
   go_ret
   exact ⟨(by rw [HR.out]; rfl), HB2.out⟩
  by_cases m2 : q < 0
  ·have HR : Aside0 (clientB ⟨i, t, v, q, b, s5, s6, d⟩ = false) := ⟨by simp [clientB, show ¬ 0 ≤ q by omega]⟩
   go_wp2_with fail
   go_ret
   exact ⟨(by rw [HR.out]; rfl), HB2.out⟩
  by_cases m3 : q > 1000
  ·have HR : Aside0 (clientB ⟨i, t, v, q, b, s5, s6, d⟩ = false) := ⟨by simp [clientB, show ¬ q ≤ 1000 by omega]⟩
   go_wp2_with fail
   go_ret
   exact ⟨(by rw [HR.out]; rfl), HB2.out⟩
  have HV : Aside0 (clientB ⟨i, t, v, q, b, s5, s6, d⟩ = (opB s5 && opB s6 && tailC ⟨i, t, v, q, b, s5, s6, d⟩)) := ⟨by simp [clientB, ht, show 0 ≤ i by omega, show i ≤ 3 by omega, show 0 ≤ v by omega, show v ≤ 1000 by omega, show 0 ≤ q by omega, show q ≤ 1000 by omega]⟩
  clear ht
  go_wp2_with fail
  refine (impl_GoodOp.calls K5 A5 c5 s5 _ _ (Kd.C_below H5.out HB2.out) HC5.out HK5.out).mono ?_
  rintro e w3 ⟨rfl, hd⟩
  have hb := hd
  have HB3 := mz (below_step HB2.out hb)
  have BK3 := mz (blk_below BK2.out hb)
  clear hd hb x0 x1 x2 x3 x4 x5 x6 x7
  obtain ⟨x0, x1, x2, x3, x4, x5, x6, x7⟩ := cells8 BK3.out
  cases h5 : opB s5 with
  | false =>
   have HR : Aside0 (clientB ⟨i, t, v, q, b, s5, s6, d⟩ = false) := ⟨by rw [HV.out, h5]; rfl⟩
   go_wp2_with fail
   go_ret
   exact ⟨(by rw [HR.out]; rfl), HB3.out⟩
  | true =>
   go_wp2_with fail
   refine (impl_GoodOp.calls K6 A6 c6 s6 _ _ (Kd.C_below H6.out HB3.out) HC6.out HK6.out).mono ?_
   rintro e w4 ⟨rfl, hd⟩
   have hb := hd
   have HB4 := mz (below_step HB3.out hb)
   have BK4 := mz (blk_below BK3.out hb)
   clear hd hb x0 x1 x2 x3 x4 x5 x6 x7
   obtain ⟨x0, x1, x2, x3, x4, x5, x6, x7⟩ := cells8 BK4.out
   cases h6 : opB s6 with
   | false =>
    have HR : Aside0 (clientB ⟨i, t, v, q, b, s5, s6, d⟩ = false) := ⟨by rw [HV.out, h5, h6]; rfl⟩
    go_wp2_with fail
    go_ret
    exact ⟨(by rw [HR.out]; rfl), HB4.out⟩
   | true =>
    have HV2 : Aside0 (clientB ⟨i, t, v, q, b, s5, s6, d⟩ = tailC ⟨i, t, v, q, b, s5, s6, d⟩) := ⟨by rw [HV.out, h5, h6]; rfl⟩
    clear HV h5 h6
    have key : ∀ (r : Bool), tailC ⟨i, t, v, q, b, s5, s6, d⟩ = r → Ending.returned (.bool r) = Ending.returned (.bool (clientB ⟨i, t, v, q, b, s5, s6, d⟩)) := fun r hr => by rw [HV2.out, hr]
    have KEY := mz key
    clear key
    rcases Nat.eq_zero_or_pos s5.length with e5 | e5 <;> rcases Nat.eq_zero_or_pos s6.length with e6 | e6
    ·have z5 : ¬ (0 : Int) < (s5.length : Int) := by omega
     have z6 : ¬ (0 : Int) < (s6.length : Int) := by omega
     by_cases e3 : q > 0 <;> cases b <;> cases d <;> (go_wp2_with fail; go_ret; exact ⟨KEY.out _ (by simp [tailC, e3, e5, e6]), HB4.out⟩)
    ·have z5 : ¬ (0 : Int) < (s5.length : Int) := by omega
     have z6 : (0 : Int) < (s6.length : Int) := by omega
     by_cases e3 : q > 0 <;> cases b <;> cases d <;> (go_wp2_with fail; go_ret; exact ⟨KEY.out _ (by simp [tailC, e3, e5, show ¬ s6.length = 0 by omega]), HB4.out⟩)
    ·have z5 : (0 : Int) < (s5.length : Int) := by omega
     have z6 : ¬ (0 : Int) < (s6.length : Int) := by omega
     by_cases e3 : q > 0 <;> cases b <;> cases d <;> (go_wp2_with fail; go_ret; exact ⟨KEY.out _ (by simp [tailC, e3, show ¬ s5.length = 0 by omega, e6]), HB4.out⟩)
    ·have z5 : (0 : Int) < (s5.length : Int) := by omega
     have z6 : (0 : Int) < (s6.length : Int) := by omega
     by_cases e3 : q > 0 <;> cases b <;> cases d <;> (go_wp2_with fail; go_ret; exact ⟨KEY.out _ (by simp [tailC, e3, show ¬ s5.length = 0 by omega, show ¬ s6.length = 0 by omega]), HB4.out⟩)
set_option maxHeartbeats 8000000 in
set_option maxRecDepth 100000 in
theorem l16Client_walk (i : Int) (t : ByteArray) (v q : Int) (b : Bool) (A5 : Option Addr) (c5 : Nat) (s5 : List (S86)) (A6 : Option Addr) (c6 : Nat) (s6 : List (S86)) (d : Bool) (w : World) (h5 : Kd.C k86 w A5 s5.length s5) (hc5 : s5.length ≤ c5) (h6 : Kd.C k86 w A6 s6.length s6) (hc6 : s6.length ≤ c6) (hz : t.size ≤ maxLen) (hs5 : sizedP s5 = true) (hs6 : sizedP s6 = true) :
  Calls Try.prog 60 #[.agg #[.int .i64 i, .string t, .int .i64 v, .int .i64 q, .bool b, .slice A5 s5.length c5, .slice A6 s6.length c6, .bool d]] w fun e w' => e = .returned (.bool (clientB ⟨i, t, v, q, b, s5, s6, d⟩)) ∧ Below w.heap.size w w' := by
 have H5 := mz h5
 have HC5 := mz hc5
 have H6 := mz h6
 have HC6 := mz hc6
 clear h5 hc5 h6 hc6
 obtain ⟨KT, hKT⟩ := Ev.rounds (specText_ev t hz)
 obtain ⟨K5, hK5⟩ := Ev.rounds (specGoodOp_ev s5 hs5)
 obtain ⟨K6, hK6⟩ := Ev.rounds (specGoodOp_ev s6 hs6)
 have HKT := mz hKT
 have HK5 := mz hK5
 have HK6 := mz hK6
 clear hKT hK5 hK6 hz hs5 hs6
 go_enter Try.func60, Try.ntmps60
 go_wp2_with ((with_reducible refine gate_dst (N := 1) rfl ?_); refine bx 1 #[.int .i64 i, .string t, .int .i64 v, .int .i64 q, .bool b, .slice A5 s5.length c5, .slice A6 s6.length c6, .bool d] 45 ?_; intro g hg w1 hbox hb1; have HB1 := mz hb1; have BK1 := mz hbox; obtain ⟨x0, x1, x2, x3, x4, x5, x6, x7⟩ := cells8 hbox; clear hg hbox hb1)
 refine (spec_l1In.calls i 0 3 _ _ (l1In_val _ _ _)).mono ?_
 rintro e w2 ⟨rfl, hd⟩
 have hb := hd.below
 have HB2 := mz (below_step HB1.out hb)
 have BK2 := mz (blk_below BK1.out hb)
 clear hd hb x0 x1 x2 x3 x4 x5 x6 x7
 obtain ⟨x0, x1, x2, x3, x4, x5, x6, x7⟩ := cells8 BK2.out
 cases h0 : (decide (0 ≤ i) && decide (i ≤ 3)) with
 | false =>
  have HR : Aside0 (clientB ⟨i, t, v, q, b, s5, s6, d⟩ = false) := ⟨by simp only [clientB, h0, Bool.false_and]⟩
  go_wp2_with fail
  go_ret
  exact ⟨(by rw [HR.out]; rfl), HB2.out⟩
 | true =>
  go_wp2_with fail
  refine (spec_GoodText.calls KT t _ _ HKT.out).mono ?_
  rintro e w3 ⟨rfl, hd⟩
  have hb := hd.below
  have HB3 := mz (below_step HB2.out hb)
  have BK3 := mz (blk_below BK2.out hb)
  clear hd hb x0 x1 x2 x3 x4 x5 x6 x7
  obtain ⟨x0, x1, x2, x3, x4, x5, x6, x7⟩ := cells8 BK3.out
  cases ht : textB t with
  | false =>
   have HR : Aside0 (clientB ⟨i, t, v, q, b, s5, s6, d⟩ = false) := ⟨by simp only [clientB, ht, Bool.and_false, Bool.false_and]⟩
   go_wp2_with fail
   go_ret
   exact ⟨(by rw [HR.out]; rfl), HB3.out⟩
  | true =>
   go_wp2_with fail
   refine (spec_l1In.calls v 0 1000 _ _ (l1In_val _ _ _)).mono ?_
   rintro e w4 ⟨rfl, hd⟩
   have hb := hd.below
   have HB4 := mz (below_step HB3.out hb)
   have BK4 := mz (blk_below BK3.out hb)
   clear hd hb x0 x1 x2 x3 x4 x5 x6 x7
   obtain ⟨x0, x1, x2, x3, x4, x5, x6, x7⟩ := cells8 BK4.out
   cases h2 : (decide (0 ≤ v) && decide (v ≤ 1000)) with
   | false =>
    have HR : Aside0 (clientB ⟨i, t, v, q, b, s5, s6, d⟩ = false) := ⟨by rw [clientB_parts, h2]; simp⟩
    go_wp2_with fail
    go_ret
    exact ⟨(by rw [HR.out]; rfl), HB4.out⟩
   | true =>
    go_wp2_with fail
    refine (spec_l1In.calls q 0 1000 _ _ (l1In_val _ _ _)).mono ?_
    rintro e w5 ⟨rfl, hd⟩
    have hb := hd.below
    have HB5 := mz (below_step HB4.out hb)
    have BK5 := mz (blk_below BK4.out hb)
    clear hd hb x0 x1 x2 x3 x4 x5 x6 x7
    obtain ⟨x0, x1, x2, x3, x4, x5, x6, x7⟩ := cells8 BK5.out
    cases h3 : (decide (0 ≤ q) && decide (q ≤ 1000)) with
    | false =>
     have HR : Aside0 (clientB ⟨i, t, v, q, b, s5, s6, d⟩ = false) := ⟨by rw [clientB_parts, h3]; simp⟩
     go_wp2_with fail
     go_ret
     exact ⟨(by rw [HR.out]; rfl), HB5.out⟩
    | true =>
     have HV : Aside0 (clientB ⟨i, t, v, q, b, s5, s6, d⟩ = (opB s5 && opB s6 && tailC ⟨i, t, v, q, b, s5, s6, d⟩)) := ⟨by rw [clientB_parts, h0, ht, h2, h3]; rfl⟩
     clear h0 ht h2 h3
     go_wp2_with fail
     refine (spec_GoodOp.calls K5 A5 c5 s5 _ _ (Kd.C_below H5.out HB5.out) HC5.out HK5.out).mono ?_
     rintro e w6 ⟨rfl, hd⟩
     have hb := hd
     have HB6 := mz (below_step HB5.out hb)
     have BK6 := mz (blk_below BK5.out hb)
     clear hd hb x0 x1 x2 x3 x4 x5 x6 x7
     obtain ⟨x0, x1, x2, x3, x4, x5, x6, x7⟩ := cells8 BK6.out
     cases h5 : opB s5 with
     | false =>
      have HR : Aside0 (clientB ⟨i, t, v, q, b, s5, s6, d⟩ = false) := ⟨by rw [HV.out, h5]; rfl⟩
      go_wp2_with fail
      go_ret
      exact ⟨(by rw [HR.out]; rfl), HB6.out⟩
     | true =>
      go_wp2_with fail
      refine (spec_GoodOp.calls K6 A6 c6 s6 _ _ (Kd.C_below H6.out HB6.out) HC6.out HK6.out).mono ?_
      rintro e w7 ⟨rfl, hd⟩
      have hb := hd
      have HB7 := mz (below_step HB6.out hb)
      have BK7 := mz (blk_below BK6.out hb)
      clear hd hb x0 x1 x2 x3 x4 x5 x6 x7
      obtain ⟨x0, x1, x2, x3, x4, x5, x6, x7⟩ := cells8 BK7.out
      cases h6 : opB s6 with
      | false =>
       have HR : Aside0 (clientB ⟨i, t, v, q, b, s5, s6, d⟩ = false) := ⟨by rw [HV.out, h5, h6]; rfl⟩
       go_wp2_with fail
       go_ret
       exact ⟨(by rw [HR.out]; rfl), HB7.out⟩
      | true =>
       have HV2 : Aside0 (clientB ⟨i, t, v, q, b, s5, s6, d⟩ = tailC ⟨i, t, v, q, b, s5, s6, d⟩) := ⟨by rw [HV.out, h5, h6]; rfl⟩
       clear HV h5 h6
       have key : ∀ (r : Bool), tailC ⟨i, t, v, q, b, s5, s6, d⟩ = r → Ending.returned (.bool r) = Ending.returned (.bool (clientB ⟨i, t, v, q, b, s5, s6, d⟩)) := fun r hr => by rw [HV2.out, hr]
       have KEY := mz key
       clear key
       rcases Nat.eq_zero_or_pos s5.length with e5 | e5 <;> rcases Nat.eq_zero_or_pos s6.length with e6 | e6
       ·have z5 : ((s5.length : Int) == 0) = true := by simp [e5]
        have z6 : ((s6.length : Int) == 0) = true := by simp [e6]
        by_cases e3 : q > 0 <;> cases b <;> cases d <;> (go_wp2_with fail; go_ret; exact ⟨KEY.out _ (by simp [tailC, e3, e5, e6]), HB7.out⟩)
       ·have z5 : ((s5.length : Int) == 0) = true := by simp [e5]
        have z6 : ((s6.length : Int) == 0) = false := beq_eq_false_iff_ne.2 (by omega)
        by_cases e3 : q > 0 <;> cases b <;> cases d <;> (go_wp2_with fail; go_ret; exact ⟨KEY.out _ (by simp [tailC, e3, e5, show ¬ s6.length = 0 by omega]), HB7.out⟩)
       ·have z5 : ((s5.length : Int) == 0) = false := beq_eq_false_iff_ne.2 (by omega)
        have z6 : ((s6.length : Int) == 0) = true := by simp [e6]
        by_cases e3 : q > 0 <;> cases b <;> cases d <;> (go_wp2_with fail; go_ret; exact ⟨KEY.out _ (by simp [tailC, e3, show ¬ s5.length = 0 by omega, e6]), HB7.out⟩)
       ·have z5 : ((s5.length : Int) == 0) = false := beq_eq_false_iff_ne.2 (by omega)
        have z6 : ((s6.length : Int) == 0) = false := beq_eq_false_iff_ne.2 (by omega)
        by_cases e3 : q > 0 <;> cases b <;> cases d <;> (go_wp2_with fail; go_ret; exact ⟨KEY.out _ (by simp [tailC, e3, show ¬ s5.length = 0 by omega, show ¬ s6.length = 0 by omega]), HB7.out⟩)

def impl_isClient.f (a0_0 : Int) (a0_1 : ByteArray) (a0_2 : Int) (a0_3 : Int) (a0_4 : Bool) (l0_5 : List (S86)) (l0_6 : List (S86)) (a0_7 : Bool) : Option (Bool) := if a0_1.size ≤ maxLen ∧ sizedP l0_5 = true ∧ sizedP l0_6 = true then some (clientB ⟨a0_0, a0_1, a0_2, a0_3, a0_4, l0_5, l0_6, a0_7⟩) else none
theorem impl_isClient.calls (a0_0 : Int) (a0_1 : ByteArray) (a0_2 : Int) (a0_3 : Int) (a0_4 : Bool) (A0_5 : Option Addr) (c0_5 : Nat) (l0_5 : List (S86)) (A0_6 : Option Addr) (c0_6 : Nat) (l0_6 : List (S86)) (a0_7 : Bool) (r : Bool) (w : World) (hr0_5 : Kd.C k86 w A0_5 l0_5.length l0_5) (hc0_5 : l0_5.length ≤ c0_5) (hr0_6 : Kd.C k86 w A0_6 l0_6.length l0_6) (hc0_6 : l0_6.length ≤ c0_6) (h : impl_isClient.f a0_0 a0_1 a0_2 a0_3 a0_4 l0_5 l0_6 a0_7 = some r) :
  Calls Try.prog 65 #[.agg #[.int .i64 a0_0, .string a0_1, .int .i64 a0_2, .int .i64 a0_3, .bool a0_4, .slice A0_5 l0_5.length c0_5, .slice A0_6 l0_6.length c0_6, .bool a0_7]] w fun e w' => e = .returned (.bool r) ∧ Below w.heap.size w w' := by
 unfold impl_isClient.f at h
 by_cases hs : a0_1.size ≤ maxLen ∧ sizedP l0_5 = true ∧ sizedP l0_6 = true
 ·rw [if_pos hs] at h
  obtain rfl := Option.some.inj h
  exact isClient_walk a0_0 a0_1 a0_2 a0_3 a0_4 A0_5 c0_5 l0_5 A0_6 c0_6 l0_6 a0_7 w hr0_5 hc0_5 hr0_6 hc0_6 hs.1 hs.2.1 hs.2.2
 ·rw [if_neg hs] at h
  exact absurd h (by simp)
theorem impl_isClient_ev (y : Client) (h1 : y.f1.size ≤ maxLen) (h5 : sizedP y.f5 = true) (h6 : sizedP y.f6 = true) : impl_isClient.f y.f0 y.f1 y.f2 y.f3 y.f4 y.f5 y.f6 y.f7 = some (clientB y) := by
 unfold impl_isClient.f; rw [if_pos ⟨h1, h5, h6⟩]


def spec_l16Client.f (a0_0 : Int) (a0_1 : ByteArray) (a0_2 : Int) (a0_3 : Int) (a0_4 : Bool) (l0_5 : List (S86)) (l0_6 : List (S86)) (a0_7 : Bool) : Option (Bool) := if a0_1.size ≤ maxLen ∧ sizedP l0_5 = true ∧ sizedP l0_6 = true then some (clientB ⟨a0_0, a0_1, a0_2, a0_3, a0_4, l0_5, l0_6, a0_7⟩) else none
theorem spec_l16Client.calls (a0_0 : Int) (a0_1 : ByteArray) (a0_2 : Int) (a0_3 : Int) (a0_4 : Bool) (A0_5 : Option Addr) (c0_5 : Nat) (l0_5 : List (S86)) (A0_6 : Option Addr) (c0_6 : Nat) (l0_6 : List (S86)) (a0_7 : Bool) (r : Bool) (w : World) (hr0_5 : Kd.C k86 w A0_5 l0_5.length l0_5) (hc0_5 : l0_5.length ≤ c0_5) (hr0_6 : Kd.C k86 w A0_6 l0_6.length l0_6) (hc0_6 : l0_6.length ≤ c0_6) (h : spec_l16Client.f a0_0 a0_1 a0_2 a0_3 a0_4 l0_5 l0_6 a0_7 = some r) :
  Calls Try.prog 60 #[.agg #[.int .i64 a0_0, .string a0_1, .int .i64 a0_2, .int .i64 a0_3, .bool a0_4, .slice A0_5 l0_5.length c0_5, .slice A0_6 l0_6.length c0_6, .bool a0_7]] w fun e w' => e = .returned (.bool r) ∧ Below w.heap.size w w' := by
 unfold spec_l16Client.f at h
 by_cases hs : a0_1.size ≤ maxLen ∧ sizedP l0_5 = true ∧ sizedP l0_6 = true
 ·rw [if_pos hs] at h
  obtain rfl := Option.some.inj h
  exact l16Client_walk a0_0 a0_1 a0_2 a0_3 a0_4 A0_5 c0_5 l0_5 A0_6 c0_6 l0_6 a0_7 w hr0_5 hc0_5 hr0_6 hc0_6 hs.1 hs.2.1 hs.2.2
 ·rw [if_neg hs] at h
  exact absurd h (by simp)
theorem spec_l16Client_ev (y : Client) (h1 : y.f1.size ≤ maxLen) (h5 : sizedP y.f5 = true) (h6 : sizedP y.f6 = true) : spec_l16Client.f y.f0 y.f1 y.f2 y.f3 y.f4 y.f5 y.f6 y.f7 = some (clientB y) := by
 unfold spec_l16Client.f; rw [if_pos ⟨h1, h5, h6⟩]
section
attribute [local go_sem] max2_int min2_int max_two min_two max_three min_three max_four min_four
theorem eqA86 (d : Nat) (w : World) (x0 y0 : Int) (x1 y1 : ByteArray) (x2 y2 : ByteArray) :
  (Op.equalIn (d + 2) 86 (.agg #[.int .i64 x0, .string x1, .string x2]) (.agg #[.int .i64 y0, .string y1, .string y2])).run Try.prog w = .ok (x0 == y0 && (x1.toList == y1.toList && (x2.toList == y2.toList))) w := by
 refine eqA_of Try.underlying86 (by kernel_rfl) ?_
 refine eqf_cons (by rfl) (by go_simp; rfl) (by go_simp; rfl) (by go_simp) ?_
 refine eqf_cons (by rfl) (by go_simp; rfl) (by go_simp; rfl) (by go_simp) ?_
 exact eqf_last (by rfl) (by go_simp; rfl) (by go_simp; rfl) (by go_simp)
end
theorem flat_get {α β : Type} (f : α → List β) (sz : Nat) (hf : ∀ x, (f x).length = sz) (hs : 0 < sz) (l : List α) : ∀ j : Nat, (l.flatMap f)[j]? = (l[j / sz]?).bind (fun x => (f x)[j % sz]?) := by
 induction l with
 | nil => intro j; simp
 | cons x l ih =>
  intro j
  rw [List.flatMap_cons]
  by_cases h : j < sz
  ·rw [List.getElem?_append_left (by rw [hf]; exact h), Nat.div_eq_of_lt h, Nat.mod_eq_of_lt h]
   simp
  ·rw [List.getElem?_append_right (by rw [hf]; omega), hf, ih]
   have e1 : j / sz = (j - sz) / sz + 1 := by rw [Nat.div_eq_sub_div hs (by omega)]
   have e2 : j % sz = (j - sz) % sz := by rw [Nat.mod_eq_sub_mod (by omega)]
   rw [e1, e2, List.getElem?_cons_succ]
theorem flat_length {α β : Type} (f : α → List β) (sz : Nat) (hf : ∀ x, (f x).length = sz) (l : List α) : (l.flatMap f).length = l.length * sz := by
 induction l with
 | nil => simp
 | cons x l ih => rw [List.flatMap_cons, List.length_append, hf, ih, List.length_cons, Nat.add_mul]; omega
theorem flat_chunk {α β : Type} (f : α → List β) (sz : Nat) (hf : ∀ x, (f x).length = sz) (l : List α) : ∀ (j : Nat) (x : α), l[j]? = some x → ((l.flatMap f).drop (j * sz)).take sz = f x := by
 induction l with
 | nil => intro j x h; simp at h
 | cons y l ih =>
  intro j x h
  rw [List.flatMap_cons]
  cases j with
  | zero =>
   have : y = x := by simpa using h
   subst this
   rw [Nat.zero_mul, List.drop_zero, List.take_append_of_le_length (by rw [hf]; exact Nat.le_refl _), List.take_of_length_le (by rw [hf]; exact Nat.le_refl _)]
  | succ j =>
   rw [List.getElem?_cons_succ] at h
   rw [show (j + 1) * sz = (f y).length + j * sz by rw [hf, Nat.add_mul]; omega, ← List.drop_drop, List.drop_left]
   exact ih j x h

def cellsP (p : Part) : List Value := [.int .i64 p.f0, .string p.f1, .string p.f2]
theorem cellsP_len (p : Part) : (cellsP p).length = 3 := rfl

theorem clone_cells {w : World} {ad : Addr} {l : List Part} (h : Kd.C k86 w (some ad) l.length l) : ∀ j u, (l.flatMap cellsP)[j]? = some u → w.cell? (ad.add j) = some u := by
 intro j u hj
 rw [flat_get cellsP 3 cellsP_len (by omega)] at hj
 obtain ⟨p, hp, hu⟩ := Option.bind_eq_some_iff.1 hj
 have hlt : j / 3 < l.length := (List.getElem?_eq_some_iff.1 hp).1
 obtain ⟨ad', e, hc⟩ := h.2.2 (by omega)
 obtain ⟨c, hcl, hK, hcell⟩ := hc (j / 3) p hp
 obtain rfl : ad = ad' := by injection e
 have hck : c = cellsP p := k86_open hK
 have hsz : k86.sz = 3 := rfl
 have := hcell (j % 3) u (by rw [hck]; exact hu)
 rw [hsz] at this
 rw [show j = j / 3 * 3 + j % 3 by omega]
 exact this
theorem R_of_flat {w' : World} {base : Nat} {v : Value} {l : List Part} (h : w'.ownsRow base 86 3 v l.length (l.flatMap cellsP)) : Kd.R k86 86 w' base (fun _ => True) v l :=
 ⟨fun _ _ => trivial, _, h, by rw [flat_length cellsP 3 cellsP_len]; rfl, fun j p hj => by
  have hsz : k86.sz = 3 := rfl
  rw [hsz, flat_chunk cellsP 3 cellsP_len l j p hj]
  exact k86_mkM _ _ _ p⟩
theorem cells_one (l : List Part) : ∀ u ∈ l.flatMap cellsP, u.oneCell' = true := by
 intro u hu
 obtain ⟨p, _, hp⟩ := List.mem_flatMap.1 hu
 simp only [cellsP, List.mem_cons, List.not_mem_nil, or_false] at hp
 rcases hp with rfl | rfl | rfl <;> rfl

def impl_Part_75.f (l0 : List (S86)) : Option ((List (S86))) := if l0.length ≤ 1000000 then some l0 else none
set_option maxHeartbeats 2000000 in
theorem impl_Part_75.calls (A0 : Option Addr) (c0 : Nat) (l0 : List (S86)) (r : List (S86)) (w : World) (hr0 : Kd.C k86 w A0 l0.length l0) (hc0 : l0.length ≤ c0) (h : impl_Part_75.f l0 = some r) :
  Calls Try.prog 75 #[.slice A0 l0.length c0] w fun e w' => ∃ v0_ : Value, e = .returned (v0_) ∧ Kd.R k86 86 w' w.heap.size (fun _ => True) v0_ r ∧ Below w.heap.size w w' := by
 unfold impl_Part_75.f at h
 by_cases hlen : l0.length ≤ 1000000
 ·rw [if_pos hlen] at h
  obtain rfl := Option.some.inj h
  cases A0 with
  | none =>
   have h0 : l0 = [] := by
    rcases Nat.eq_zero_or_pos l0.length with h | h
    ·exact List.eq_nil_of_length_eq_zero h
    ·obtain ⟨_, e, _⟩ := hr0.2.2 h; cases e
   subst h0
   have q22 : ∀ (w : World) (a : Option Addr) (n c n' c' : Nat), (binOp .eql 34 (.slice a n c) (.slice none n' c')).run Try.prog w = .ok (.bool a.isNone) w := fun w a n c n' c' => Lib.run_eql_slice_nil w _ _ a n c n' c' Try.underlying34
   clear hr0 hc0 h
   go_enter Try.func75, Try.ntmps75
   go_wp2
   go_ret
   exact ⟨_, rfl, Kd.R_nil _ _ _ _ _, Below.refl _ _⟩
  | some ad =>
   have q22 : ∀ (w : World) (a : Option Addr) (n c n' c' : Nat), (binOp .eql 34 (.slice a n c) (.slice none n' c')).run Try.prog w = .ok (.bool a.isNone) w := fun w a n c n' c' => Lib.run_eql_slice_nil w _ _ a n c n' c' Try.underlying34
   obtain ⟨i0, hi, hzz⟩ := Option.map_eq_some_iff.1 info86
   simp only [Prod.mk.injEq] at hzz
   obtain ⟨hz0, hz1, hz2⟩ := hzz
   have HA := mz (clone_cells hr0)
   have HI := mz hi
   have HZ0 := mz hz0
   have HZ1 := mz hz1
   have HZ2 := mz hz2
   clear hr0 hc0 h hi hz0 hz1 hz2
   go_enter Try.func75, Try.ntmps75
   go_wp2_with (at_builtin; refine wpList_append_own _ rfl _ _ 34 rfl w.heap.size 86 i0 (.agg #[.int .i64 0, .string ⟨#[]⟩, .string ⟨#[]⟩]) 3 40 Try.underlying34 HI.out HZ0.out HZ1.out HZ2.out rfl (by decide) _ _ _ rfl (World.ownsRow_made w #[] 0 (Nat.le_refl _) (Nat.zero_le _) (by simp)) ad l0.length c0 (l0.flatMap cellsP) rfl ?qc1 ?qc2 ?qc3 ?qc4 ?qc5 ?qc6 ?_)
   case qc1 => exact flat_length cellsP 3 cellsP_len l0
   case qc2 =>
    intro j u hj
    exact Lib.cell?_alloc_some _ (HA.out j u hj)
   case qc3 => exact cells_one l0
   case qc4 => unfold maxLen; omega
   case qc5 => omega
   case qc6 => simp
   intro v' w1 hown hgrow hnil
   go_wp2
   go_ret
   refine ⟨v', rfl, R_of_flat (by simpa using hown), ?_⟩
   exact ((Below.refl _ w).alloc (Nat.le_refl _) _).grown hgrow (by simp) (by intro k hk; simp [Value.ownBlock] at hk; omega)
 ·rw [if_neg hlen] at h
  exact absurd h (by simp)
section
variable {P : Program} {ops : Array Oper} {Q : Exit → Act → World → Prop} {md : Region.Mode} {S : World → Prop} {ds : List Nat} {fuel : Nat} {listed : Array Bool} {a a' : Act} {w : World} {oi : Oper}
theorem yT (i : Nat) {G : World → Prop} {v : Value} (F : ∀ w, S w → G w)
  (h : wpAnyLast P md ops Q S ds fuel (listed.setIfInBounds i true) a' w) (hi : ops[i]? = some oi := by rfl) (hc : takeB md ops ds listed (listed.setIfInBounds i true) i = true := by kernel_rfl)
  (hw : Region.wanted oi (yielded ops a.tmps) = true := by rfl) (hS : S w := by assumption)
  (hy : ∀ w, G w → (execOp a.eval oi).run P w = .ok (.value v) w := by (intro w hSw; (try dsimp only at hSw); go_simp; (try with_reducible rfl)))
  (hQ : ∀ c a w, Q (.panic c) (a.put oi.dst v) w → Q (.panic c) a w := by exact fun _ _ _ h => h)
  (ha : a.put oi.dst v = a' := by (simp only [Act.put, List.getElem_toArray, List.getElem_cons_succ, List.getElem_cons_zero, List.setIfInBounds_toArray, List.set_cons_zero, List.set_cons_succ]; rfl)) : wpAnyLast P md ops Q S ds (fuel + 1) listed a w :=
 take_ _ hi rfl hc hQ (Or.inl ⟨hw, fun w hw => hy w (F w hw)⟩) hS ha h
theorem yV (i : Nat) {v : Value} {w1 : World} (hS : S w1) (h : S w1 → wpAnyLast P md ops Q S ds fuel (listed.setIfInBounds i true) a' w1)
  (hi : ops[i]? = some oi := by rfl) (hc : readyB md ops listed (listed.setIfInBounds i true) i = true := by kernel_rfl) (hd : i ∉ ds := by decide)
  (hw : Region.wanted oi (yielded ops a.tmps) = true := by rfl)
  (hrun : (execOp a.eval oi).run P w = .ok (.value v) w1 := by (first | (go_simp; done) | (go_simp; rfl)))
  (ha : a.put oi.dst v = a' := by (simp only [Act.put, List.getElem_toArray, List.getElem_cons_succ, List.getElem_cons_zero, List.setIfInBounds_toArray, List.set_cons_zero, List.set_cons_succ]; rfl)) : wpAnyLast P md ops Q S ds (fuel + 1) listed a w :=
 one_ _ hi rfl hc hd (fun K hK => value_ hw rfl hrun (by rw [ha]; exact hK _ _ hS h))
theorem yM (i : Nat) {w1 : World} (hS : S w1) (h : S w1 → wpAnyLast P md ops Q S ds fuel (listed.setIfInBounds i true) a w1)
  (hi : ops[i]? = some oi := by rfl) (hc : readyB md ops listed (listed.setIfInBounds i true) i = true := by kernel_rfl) (hd : i ∉ ds := by decide)
  (hw : Region.wanted oi (yielded ops a.tmps) = true := by rfl) (hN : oi.dst = none := by rfl)
  (hrun : (execOp a.eval oi).run P w = .ok .skip w1 := by (first | (go_simp; done) | (go_simp; rfl))) : wpAnyLast P md ops Q S ds (fuel + 1) listed a w :=
 one_ _ hi hN hc hd (fun K hK => skip_ hw hN hrun (hK a w1 hS h))
theorem yL (i : Nat) {w1 : World} (h : wpAnyLast P md ops Q S ds fuel (listed.setIfInBounds i true) a w1)
  (hi : ops[i]? = some oi := by rfl) (hc : readyB md ops listed (listed.setIfInBounds i true) i = true := by kernel_rfl) (hd : i ∈ ds := by decide)
  (hw : Region.wanted oi (yielded ops a.tmps) = true := by rfl) (hN : oi.dst = none := by rfl)
  (hrun : (execOp a.eval oi).run P w = .ok .skip w1 := by (first | (go_simp; done) | (go_simp; rfl))) : wpAnyLast P md ops Q S ds (fuel + 1) listed a w :=
 last_ _ hi hN hc hd (fun K hK => skip_ hw hN hrun (hK a w1 h))
theorem yA (i : Nat) (s x : Operand) (t : TypeId) (base : Nat) (e : TypeId) (inf : TypeInfo) (z : Value) (size bytes : Nat) (ht : P.underlying t = some (.slice e)) (hinf : P.info? e = some inf) (hz : inf.zero = some z)
  (hsize : inf.size = size) (hby : inf.bytes = bytes) (hzs : z.cells.size = size) (hsz : 0 < size)
  (v : Value) (n : Nat) (xs : List Value) (hs : a.eval s = v) (hown : w.ownsRow base e size v n xs)
  (ad : Addr) (m c : Nat) (news : List Value) (hx : a.eval x = .slice (some ad) m c) (hl : news.length = m * size) (hnews : ∀ j u, news[j]? = some u → w.cell? (ad.add j) = some u) (h1 : ∀ u ∈ news, u.oneCell' = true)
  (hm : 0 < m) (h63 : n + m ≤ maxLen) (hbytes : (n + m) * bytes ≤ 140737488355328) (hbase : base ≤ w.heap.size)
  (h : ∀ g cap w', w'.ownsRow base e size (.slice (some ⟨g, 0, none⟩) (n + m) cap) (n + m) (xs ++ news) → w.grownBy w' v.ownBlock → (v.ownBlock = some g ∨ g = w.heap.size) → g < w'.heap.size →
   S w' ∧ ∀ a', a.put oi.dst (.slice (some ⟨g, 0, none⟩) (n + m) cap) = a' → (S w' → wpAnyLast P md ops Q S ds fuel (listed.setIfInBounds i true) a' w'))
  (hi : ops[i]? = some oi := by rfl) (hc : readyB md ops listed (listed.setIfInBounds i true) i = true := by kernel_rfl) (hd : i ∉ ds := by decide)
  (hgd : oi.guard = none := by rfl) (ho : oi.op = .call { callee := .builtin .append, args := #[s, x], argTypes := #[t, t] } := by rfl) : wpAnyLast P md ops Q S ds (fuel + 1) listed a w :=
 one_ _ hi rfl hc hd (fun K hK => step_append_lies w hgd s x t ho base e inf z size bytes ht hinf hz hsize hby hzs hsz v n xs hs hown ad m c news hx hl hnews h1 hm h63 hbytes hbase w.heap.size rfl
  (fun g cap w' h2 h3 h4 h5 => by obtain ⟨h6, h7⟩ := h g cap w' h2 h3 h4 h5; exact hK _ _ h6 (h7 _ rfl)))
end
theorem bd_ext {a b : ByteArray} (h : a.data.toList = b.data.toList) : a = b := ba_ext (by rw [ByteArray.toList_eq, ByteArray.toList_eq]; exact h)
theorem ba_size_app (a b : ByteArray) : (a ++ b).size = a.size + b.size := by simp
theorem ba_zero {s : ByteArray} (h : s.size = 0) : s = ⟨#[]⟩ := bd_ext (by rw [List.eq_nil_of_length_eq_zero (l := s.data.toList) (by simpa using h)])
def noB : ByteArray := ⟨#[]⟩
theorem noB_size : noB.size = 0 := rfl
def oneByte (c : UInt8) : ByteArray := ⟨#[c]⟩

inductive U where
 | k | p (c : UInt8) | d (c : UInt8)
def unitsP (p : Part) : List U := List.replicate p.f0.toNat U.k ++ (p.f1.data.toList.map U.p ++ p.f2.data.toList.map U.d)
def unitsL (l : List Part) : List U := l.flatMap unitsP
structure Mk where
 out : List Part
 put : ByteArray
 drop : ByteArray
def mk0 : Mk := ⟨[], noB, noB⟩
def putPart (s : ByteArray) : List Part := if s.size = 0 then [] else [⟨0, s, noB⟩]
def dropPart (s : ByteArray) : List Part := if s.size = 0 then [] else [⟨0, noB, s⟩]
def madeL (m : Mk) : List Part := m.out ++ (putPart m.put ++ dropPart m.drop)
def keepL (o : List Part) (n : Int) : List Part := match o.getLast? with
 | some q => if q.f0 > 0 then o.dropLast ++ [⟨q.f0 + n, q.f1, q.f2⟩] else o ++ [⟨n, noB, noB⟩]
 | none => o ++ [⟨n, noB, noB⟩]
def keepM (n : Int) (m : Mk) : Mk := if n = 0 then m else ⟨keepL (madeL m) n, noB, noB⟩
def takeM (m : Mk) (p : Part) : Mk := ⟨(keepM p.f0 m).out, (keepM p.f0 m).put ++ p.f1, (keepM p.f0 m).drop ++ p.f2⟩
def stepU (m : Mk) : U → Mk
 | .k => keepM 1 m
 | .p c => ⟨m.out, m.put ++ oneByte c, m.drop⟩
 | .d c => ⟨m.out, m.put, m.drop ++ oneByte c⟩

theorem keepL_snoc (o : List Part) (q : Part) (n : Int) : keepL (o ++ [q]) n = if q.f0 > 0 then o ++ [⟨q.f0 + n, q.f1, q.f2⟩] else o ++ [q] ++ [⟨n, noB, noB⟩] := by
 simp [keepL]
theorem keepL_nil (n : Int) : keepL [] n = [⟨n, noB, noB⟩] := rfl
theorem keepL_keepL (o : List Part) (a b : Int) (ha : 0 < a) : keepL (keepL o a) b = keepL o (a + b) := by
 rcases List.eq_nil_or_concat o with rfl | ⟨o, q, rfl⟩
 ·have := keepL_snoc [] ⟨a, noB, noB⟩ b
  simp only [List.nil_append] at this
  rw [keepL_nil, keepL_nil, this]
  simp only [gt_iff_lt, ha, if_true]
 ·rw [List.concat_eq_append, keepL_snoc, keepL_snoc]
  by_cases h : q.f0 > 0
  ·rw [if_pos h, if_pos h, keepL_snoc, if_pos (by simp only [gt_iff_lt] at *; omega)]
   simp only [Int.add_assoc]
  ·rw [if_neg h, if_neg h, keepL_snoc, if_pos (by simp only [gt_iff_lt]; omega)]
theorem madeL_kept (o : List Part) : madeL ⟨o, noB, noB⟩ = o := by simp [madeL, putPart, dropPart, noB_size]
theorem keepM_keepM (m : Mk) (a b : Int) (ha : 0 < a) (hb : 0 < b) : keepM b (keepM a m) = keepM (a + b) m := by
 unfold keepM
 rw [if_neg (by omega), if_neg (by omega), if_neg (by omega), madeL_kept, keepL_keepL _ _ _ ha]
theorem steps_keep (m : Mk) (n : Nat) : (List.replicate n U.k).foldl stepU m = keepM n m := by
 induction n generalizing m with
 | zero => simp [keepM]
 | succ n ih =>
  rw [List.replicate_succ, List.foldl_cons, ih]
  show keepM n (keepM 1 m) = _
  cases n with
  | zero => simp [keepM]
  | succ n => rw [keepM_keepM _ _ _ (by omega) (by omega)]; congr 1; push_cast; omega
theorem push_app (s : ByteArray) (c : UInt8) (l : List UInt8) : s ++ oneByte c ++ ⟨l.toArray⟩ = s ++ ⟨(c :: l).toArray⟩ := bd_ext (by simp [oneByte])
theorem steps_put (l : List UInt8) (m : Mk) : (l.map U.p).foldl stepU m = ⟨m.out, m.put ++ ⟨l.toArray⟩, m.drop⟩ := by
 induction l generalizing m with
 | nil => simp only [List.map_nil, List.foldl_nil]; rw [show (⟨([] : List UInt8).toArray⟩ : ByteArray) = ⟨#[]⟩ from rfl, ba_app_nil]
 | cons c l ih => rw [List.map_cons, List.foldl_cons, ih]; simp only [stepU]; rw [push_app]
theorem steps_drop (l : List UInt8) (m : Mk) : (l.map U.d).foldl stepU m = ⟨m.out, m.put, m.drop ++ ⟨l.toArray⟩⟩ := by
 induction l generalizing m with
 | nil => simp only [List.map_nil, List.foldl_nil]; rw [show (⟨([] : List UInt8).toArray⟩ : ByteArray) = ⟨#[]⟩ from rfl, ba_app_nil]
 | cons c l ih => rw [List.map_cons, List.foldl_cons, ih]; simp only [stepU]; rw [push_app]
theorem ba_list (s : ByteArray) : (⟨s.data.toList.toArray⟩ : ByteArray) = s := by cases s; simp
theorem takeM_units (m : Mk) (p : Part) (h : 0 ≤ p.f0) : (unitsP p).foldl stepU m = takeM m p := by
 unfold unitsP takeM
 rw [List.foldl_append, List.foldl_append, steps_keep, steps_put, steps_drop, ba_list, ba_list]
 simp only [Int.toNat_of_nonneg h]
theorem foldl_takeM (l : List Part) (m : Mk) (h : ∀ p ∈ l, 0 ≤ p.f0) : (unitsL l).foldl stepU m = l.foldl takeM m := by
 induction l generalizing m with
 | nil => rfl
 | cons p l ih =>
  show ((unitsP p ++ unitsL l).foldl stepU m) = _
  rw [List.foldl_append, takeM_units m p (h p List.mem_cons_self), List.foldl_cons]
  exact ih _ (fun q hq => h q (List.mem_cons_of_mem _ hq))

def pureP (p : Part) : Prop := 0 ≤ p.f0 ∧ (p.f0 ≠ 0 → p.f1.size = 0 ∧ p.f2.size = 0) ∧ (p.f1.size ≠ 0 → p.f2.size = 0)
def InvM (m : Mk) : Prop := ∀ q, m.out.getLast? = some q → 0 < q.f0 ∧ q.f1.size = 0 ∧ q.f2.size = 0
theorem InvM.zero : InvM mk0 := by intro q h; simp [mk0] at h
theorem keepL_last (o : List Part) (n : Int) (hn : 0 < n) (h : ∀ q, o.getLast? = some q → 0 < q.f0 → q.f1.size = 0 ∧ q.f2.size = 0) : ∀ q, (keepL o n).getLast? = some q → 0 < q.f0 ∧ q.f1.size = 0 ∧ q.f2.size = 0 := by
 intro q hq
 rcases List.eq_nil_or_concat o with rfl | ⟨o, x, rfl⟩
 ·rw [keepL_nil] at hq; simp at hq; subst hq; exact ⟨hn, rfl, rfl⟩
 ·rw [List.concat_eq_append] at h hq
  rw [keepL_snoc] at hq
  by_cases z : x.f0 > 0
  ·rw [if_pos z] at hq; simp at hq; subst hq
   have := h x (by simp) z
   exact ⟨(by simp only; omega), this.1, this.2⟩
  ·rw [if_neg z] at hq; simp at hq; subst hq; exact ⟨hn, rfl, rfl⟩
theorem madeL_last {m : Mk} (hI : InvM m) : ∀ q, (madeL m).getLast? = some q → 0 < q.f0 → q.f1.size = 0 ∧ q.f2.size = 0 := by
 intro q hq h0
 unfold madeL putPart dropPart at hq
 by_cases a : m.drop.size = 0
 ·by_cases b : m.put.size = 0
  ·rw [if_pos a, if_pos b] at hq; simp at hq; exact (hI q hq).2
  ·rw [if_pos a, if_neg b] at hq; simp at hq; subst hq; exact absurd h0 (by simp)
 ·by_cases b : m.put.size = 0
  ·rw [if_neg a, if_pos b] at hq; simp at hq; subst hq; exact absurd h0 (by simp)
  ·rw [if_neg a, if_neg b] at hq; simp at hq; subst hq; exact absurd h0 (by simp)
theorem InvM.keep {m : Mk} (hI : InvM m) (n : Int) (hn : 0 ≤ n) : InvM (keepM n m) := by
 unfold keepM
 by_cases z : n = 0
 ·rw [if_pos z]; exact hI
 ·rw [if_neg z]; exact keepL_last _ _ (by omega) (madeL_last hI)
theorem InvM.take {m : Mk} (hI : InvM m) (p : Part) (h : 0 ≤ p.f0) : InvM (takeM m p) := hI.keep p.f0 h
theorem InvM.fold {l : List Part} {m : Mk} (hI : InvM m) (h : ∀ p ∈ l, 0 ≤ p.f0) : InvM (l.foldl takeM m) := by
 induction l generalizing m with
 | nil => exact hI
 | cons p l ih => exact ih (hI.take p (h p List.mem_cons_self)) (fun q hq => h q (List.mem_cons_of_mem _ hq))

def addL (o : List Part) (p : Part) : List Part :=
 if p.f0 = 0 ∧ p.f1.size = 0 ∧ p.f2.size = 0 then o
 else match o.getLast? with
 | none => o ++ [p]
 | some q =>
  if 0 < p.f0 ∧ 0 < q.f0 then o.dropLast ++ [⟨q.f0 + p.f0, q.f1, q.f2⟩]
  else if p.f2.size ≠ 0 ∧ q.f2.size ≠ 0 then o.dropLast ++ [⟨q.f0, q.f1, q.f2 ++ p.f2⟩]
  else if p.f1.size ≠ 0 ∧ q.f1.size ≠ 0 then o.dropLast ++ [⟨q.f0, q.f1 ++ p.f1, q.f2⟩]
  else if p.f1.size ≠ 0 ∧ q.f2.size ≠ 0 then
   match o.dropLast.getLast? with
   | some r => if r.f1.size ≠ 0 then o.dropLast.dropLast ++ [⟨r.f0, r.f1 ++ p.f1, r.f2⟩, q] else o.dropLast ++ [p, q]
   | none => o.dropLast ++ [p, q]
  else o ++ [p]
theorem part_ext (p : Part) (a : Int) (b c : ByteArray) (h0 : p.f0 = a) (h1 : p.f1 = b) (h2 : p.f2 = c) : p = ⟨a, b, c⟩ := by cases p; simp_all
theorem addL_made (m : Mk) (p : Part) (hI : InvM m) (hp : pureP p) : addL (madeL m) p = madeL (takeM m p) := by
 have hz0 : (⟨#[]⟩ : ByteArray).size = 0 := rfl
 obtain ⟨p0, p1, p2⟩ := hp
 by_cases hz : p.f0 = 0
 case neg =>
  obtain ⟨e1, e2⟩ := p1 hz
  have e1' := ba_zero e1
  have e2' := ba_zero e2
  have hk : 0 < p.f0 := by omega
  have e : p = ⟨p.f0, noB, noB⟩ := part_ext p _ _ _ rfl e1' e2'
  have hr : madeL (takeM m p) = keepL (madeL m) p.f0 := by
   unfold takeM keepM
   rw [if_neg hz, e1', e2']
   simp only
   rw [show noB ++ (⟨#[]⟩ : ByteArray) = noB from ba_app_nil _, madeL_kept]
  rw [hr]
  unfold addL keepL
  rw [if_neg (by omega)]
  cases hl : (madeL m).getLast? with
  | none => simp only; rw [← e]
  | some q =>
   simp only [e1, e2, ne_eq, not_true_eq_false, false_and, if_false, hk, true_and, gt_iff_lt]
   by_cases z : 0 < q.f0
   ·rw [if_pos z, if_pos z]
   ·rw [if_neg z, if_neg z, ← e]
 case pos =>
  have hk : takeM m p = ⟨m.out, m.put ++ p.f1, m.drop ++ p.f2⟩ := by unfold takeM keepM; rw [if_pos hz]
  rw [hk]
  by_cases a : p.f1.size = 0
  ·by_cases b : p.f2.size = 0
   ·unfold addL
    rw [if_pos ⟨hz, a, b⟩, ba_zero a, ba_zero b, ba_app_nil, ba_app_nil]
   ·-- drop
    have e : p = ⟨0, noB, p.f2⟩ := part_ext p _ _ _ hz (ba_zero a) rfl
    unfold addL
    rw [if_neg (by simp [b]), ba_zero a, ba_app_nil]
    have hs : (m.drop ++ p.f2).size ≠ 0 := by rw [ba_size_app]; omega
    by_cases c : m.drop.size = 0
    ·have hm : madeL m = m.out ++ putPart m.put := by simp [madeL, dropPart, c]
     have hd : m.drop ++ p.f2 = p.f2 := by rw [ba_zero c, ba_nil_app]
     have hm2 : madeL ⟨m.out, m.put, m.drop ++ p.f2⟩ = m.out ++ putPart m.put ++ [p] := by
      rw [hd]; simp only [madeL, dropPart, if_neg b]; rw [← e, List.append_assoc]
     rw [hm, hm2]
     cases hl : (m.out ++ putPart m.put).getLast? with
     | none => rfl
     | some q =>
      have hq : q.f2.size = 0 := by
       unfold putPart at hl
       by_cases z : m.put.size = 0
       ·rw [if_pos z] at hl; simp at hl; exact (hI q hl).2.2
       ·rw [if_neg z] at hl; simp at hl; subst hl; rfl
      simp only
      rw [if_neg (by omega), if_neg (by omega), if_neg (by omega), if_neg (by omega)]
    ·simp only [madeL, putPart, dropPart, if_neg hs, if_neg c]
     rw [List.getLast?_append]; rw [List.getLast?_append]
     simp only [List.getLast?_singleton, Option.some_or]
     rw [if_neg (by omega), if_pos ⟨b, c⟩]
     rw [← List.append_assoc, List.dropLast_concat]
     simp [noB]
  ·-- put
   have b := p2 a
   have e : p = ⟨0, p.f1, noB⟩ := part_ext p _ _ _ hz rfl (ba_zero b)
   unfold addL
   rw [if_neg (by simp [a]), ba_zero b, ba_app_nil]
   have hs : (m.put ++ p.f1).size ≠ 0 := by rw [ba_size_app]; omega
   by_cases c : m.drop.size = 0
   ·have hmd : m.drop = ⟨#[]⟩ := ba_zero c
    simp only [madeL, dropPart, if_pos c, List.append_nil]
    by_cases d : m.put.size = 0
    ·have hp2 : m.put ++ p.f1 = p.f1 := by rw [ba_zero d, ba_nil_app]
     rw [hp2]
     simp only [putPart, if_pos d, List.append_nil, if_neg a]
     rw [← e]
     cases hl : m.out.getLast? with
     | none => rfl
     | some q =>
      obtain ⟨q0, q1, q2⟩ := hI q hl
      simp only
      rw [if_neg (by omega), if_neg (by omega), if_neg (by omega), if_neg (by omega)]
    ·simp only [putPart, if_neg d, if_neg hs]
     rw [List.getLast?_append]
     simp only [List.getLast?_singleton, Option.some_or]
     rw [if_neg (by omega), if_neg (by simp [noB_size]), if_pos ⟨a, d⟩, List.dropLast_concat]
   ·simp only [madeL, dropPart, if_neg c]
    rw [← List.append_assoc, List.getLast?_append]
    simp only [List.getLast?_singleton, Option.some_or]
    rw [if_neg (by omega), if_neg (by omega), if_neg (by rw [noB_size]; omega), if_pos ⟨a, c⟩, List.dropLast_concat]
    by_cases d : m.put.size = 0
    ·have hp2 : m.put ++ p.f1 = p.f1 := by rw [ba_zero d, ba_nil_app]
     rw [hp2]
     simp only [putPart, if_pos d, List.append_nil, if_neg a]
     rw [← e]
     cases hl : m.out.getLast? with
     | none => simp
     | some r =>
      obtain ⟨q0, q1, q2⟩ := hI r hl
      simp only [q1, ne_eq, not_true_eq_false, if_false]
      simp
    ·simp only [putPart, if_neg d, if_neg hs]
     rw [List.getLast?_append]
     simp only [List.getLast?_singleton, Option.some_or, ne_eq, d, not_false_eq_true, if_true, List.dropLast_concat]
     simp
def takesU (l : List U) : Nat := (l.map fun u => match u with | .p _ => 0 | _ => 1).sum
def makesU (l : List U) : Nat := (l.map fun u => match u with | .d _ => 0 | _ => 1).sum

def compU : List U → List U → Mk → Option Mk
 | .d c :: xs, ys, m => compU xs ys (stepU m (.d c))
 | [], .p c :: ys, m => compU [] ys (stepU m (.p c))
 | [], [], m => some m
 | [], _ :: _, _ => none
 | .k :: xs, .p c :: ys, m => compU (.k :: xs) ys (stepU m (.p c))
 | .k :: xs, .k :: ys, m => compU xs ys (stepU m .k)
 | .k :: xs, .d c :: ys, m => compU xs ys (stepU m (.d c))
 | .k :: _, [], _ => none
 | .p e :: xs, .p c :: ys, m => compU (.p e :: xs) ys (stepU m (.p c))
 | .p e :: xs, .k :: ys, m => compU xs ys (stepU m (.p e))
 | .p e :: xs, .d c :: ys, m => if e = c then compU xs ys m else none
 | .p _ :: _, [], _ => none
termination_by xs ys => xs.length + ys.length
theorem step_comm (m : Mk) (c e : UInt8) : stepU (stepU m (.p c)) (.d e) = stepU (stepU m (.d e)) (.p c) := rfl
theorem compU_d (c : UInt8) (xs ys : List U) (m : Mk) : compU (.d c :: xs) ys m = compU xs ys (stepU m (.d c)) := by rw [compU]
theorem compU_p (c : UInt8) (xs ys : List U) (m : Mk) : compU xs (.p c :: ys) m = compU xs ys (stepU m (.p c)) := by
 induction xs generalizing m with
 | nil => rw [compU]
 | cons u xs ih =>
  cases u with
  | d e => rw [compU_d, compU_d, ih, step_comm]
  | k => rw [compU]
  | p e => rw [compU]
theorem compU_kk (xs ys : List U) (m : Mk) : compU (.k :: xs) (.k :: ys) m = compU xs ys (stepU m .k) := by rw [compU]
theorem compU_kd (c : UInt8) (xs ys : List U) (m : Mk) : compU (.k :: xs) (.d c :: ys) m = compU xs ys (stepU m (.d c)) := by rw [compU]
theorem compU_pk (c : UInt8) (xs ys : List U) (m : Mk) : compU (.p c :: xs) (.k :: ys) m = compU xs ys (stepU m (.p c)) := by rw [compU]
theorem compU_pd (c e : UInt8) (xs ys : List U) (m : Mk) : compU (.p c :: xs) (.d e :: ys) m = if c = e then compU xs ys m else none := by rw [compU]
inductive Sw : List U → List U → Prop
 | refl (l : List U) : Sw l l
 | swap (a : List U) (c e : UInt8) (b : List U) : Sw (a ++ .d e :: .p c :: b) (a ++ .p c :: .d e :: b)
 | trans {a b c : List U} (h : Sw a b) (k : Sw b c) : Sw a c
def unitsM (m : Mk) : List U := unitsL m.out ++ (m.put.data.toList.map U.p ++ m.drop.data.toList.map U.d)
theorem unitsL_append (a b : List Part) : unitsL (a ++ b) = unitsL a ++ unitsL b := by simp [unitsL]
theorem unitsL_cons (p : Part) (l : List Part) : unitsL (p :: l) = unitsP p ++ unitsL l := rfl
theorem data_nil {s : ByteArray} (h : s.size = 0) : s.data.toList = [] := by rw [ba_zero h]
theorem units_putPart (s : ByteArray) : unitsL (putPart s) = s.data.toList.map U.p := by
 unfold putPart
 by_cases h : s.size = 0
 ·rw [if_pos h, data_nil h]; rfl
 ·rw [if_neg h]; simp [unitsL, unitsP, noB]
theorem units_dropPart (s : ByteArray) : unitsL (dropPart s) = s.data.toList.map U.d := by
 unfold dropPart
 by_cases h : s.size = 0
 ·rw [if_pos h, data_nil h]; rfl
 ·rw [if_neg h]; simp [unitsL, unitsP, noB]
theorem units_made (m : Mk) : unitsL (madeL m) = unitsM m := by
 unfold madeL unitsM
 rw [unitsL_append, unitsL_append, units_putPart, units_dropPart]
theorem Sw.app {a b : List U} (h : Sw a b) (l r : List U) : Sw (l ++ a ++ r) (l ++ b ++ r) := by
 induction h with
 | refl x => exact .refl _
 | swap a c e b =>
  have := Sw.swap (l ++ a) c e (b ++ r)
  simpa using this
 | trans _ _ h1 h2 => exact h1.trans h2
theorem Sw.bubble (c : UInt8) (l : List UInt8) : Sw (l.map U.d ++ [U.p c]) (U.p c :: l.map U.d) := by
 induction l with
 | nil => exact .refl _
 | cons e l ih =>
  have h1 := ih.app [U.d e] []
  simp only [List.append_nil, List.singleton_append] at h1
  simp only [List.map_cons, List.cons_append]
  exact h1.trans (Sw.swap [] c e (l.map U.d))
theorem units_keep (o : List Part) (n : Int) (hn : 0 ≤ n) (h : ∀ q, o.getLast? = some q → 0 < q.f0 → q.f1.size = 0 ∧ q.f2.size = 0) : unitsL (keepL o n) = unitsL o ++ List.replicate n.toNat U.k := by
 have hk : ∀ z : Int, unitsL [⟨z, noB, noB⟩] = List.replicate z.toNat U.k := fun z => by simp [unitsL, unitsP, noB]
 rcases List.eq_nil_or_concat o with rfl | ⟨o, q, rfl⟩
 ·rw [keepL_nil, hk]; rfl
 ·rw [List.concat_eq_append] at h ⊢
  rw [keepL_snoc]
  by_cases z : q.f0 > 0
  ·obtain ⟨e1, e2⟩ := h q (by simp) z
   rw [if_pos z, unitsL_append, unitsL_append]
   have e : q = ⟨q.f0, noB, noB⟩ := part_ext q _ _ _ rfl (ba_zero e1) (ba_zero e2)
   rw [e]
   simp only
   rw [show (⟨q.f0 + n, noB, noB⟩ : Part) = ⟨q.f0 + n, noB, noB⟩ from rfl, hk, hk, List.append_assoc, List.replicate_append_replicate, Int.toNat_add (by omega) hn]
  ·rw [if_neg z, unitsL_append, hk]
theorem units_step (m : Mk) (u : U) (hI : InvM m) : Sw (unitsM m ++ [u]) (unitsM (stepU m u)) := by
 cases u with
 | k =>
  show Sw _ (unitsM (keepM 1 m))
  have : unitsM (keepM 1 m) = unitsM m ++ [U.k] := by
   unfold keepM
   rw [if_neg (by omega), ← units_made, madeL_kept, units_keep _ _ (by omega) (madeL_last hI), units_made]; rfl
  rw [this]; exact .refl _
 | p c =>
  have h := (Sw.bubble c m.drop.data.toList).app (unitsL m.out ++ m.put.data.toList.map U.p) []
  have e : unitsM (stepU m (.p c)) = unitsL m.out ++ m.put.data.toList.map U.p ++ (U.p c :: m.drop.data.toList.map U.d) ++ [] := by simp [unitsM, stepU, oneByte]
  have e2 : unitsM m ++ [U.p c] = unitsL m.out ++ m.put.data.toList.map U.p ++ (m.drop.data.toList.map U.d ++ [U.p c]) ++ [] := by simp [unitsM]
  rw [e, e2]; exact h
 | d c =>
  have e : unitsM (stepU m (.d c)) = unitsM m ++ [U.d c] := by simp [unitsM, stepU, oneByte]
  rw [e]; exact .refl _
theorem InvM.step {m : Mk} (hI : InvM m) (u : U) : InvM (stepU m u) := by
 cases u with
 | k => exact hI.keep 1 (by omega)
 | p c => exact hI
 | d c => exact hI
theorem units_fold (l : List U) (m : Mk) (hI : InvM m) : Sw (unitsM m ++ l) (unitsM (l.foldl stepU m)) := by
 induction l generalizing m with
 | nil => rw [List.append_nil]; exact .refl _
 | cons u l ih =>
  have h1 := (units_step m u hI).app [] l
  simp only [List.nil_append, List.append_assoc, List.singleton_append] at h1
  exact h1.trans (ih _ (hI.step u))
def normL (l : List Part) : List Part := madeL (l.foldl takeM mk0)
theorem units_norm (l : List Part) (h : ∀ p ∈ l, 0 ≤ p.f0) : Sw (unitsL l) (unitsL (normL l)) := by
 have := units_fold (unitsL l) mk0 InvM.zero
 rw [foldl_takeM l mk0 h, ← units_made (l.foldl takeM mk0), show unitsM mk0 = [] from rfl, List.nil_append] at this
 exact this
def sizeP (p : Part) : Nat := p.f0.toNat + p.f1.size + p.f2.size
def firstP (p : Part) (n : Nat) : Part := if 0 < p.f0 then ⟨n, p.f1, p.f2⟩ else if p.f1.size ≠ 0 then ⟨p.f0, p.f1.extract 0 n, p.f2⟩ else ⟨p.f0, p.f1, p.f2.extract 0 n⟩
def restQ (p : Part) (n : Nat) : Part := if 0 < p.f0 then ⟨p.f0 - n, p.f1, p.f2⟩ else if p.f1.size ≠ 0 then ⟨p.f0, p.f1.extract n p.f1.size, p.f2⟩ else ⟨p.f0, p.f1, p.f2.extract n p.f2.size⟩
theorem ba_split (s : ByteArray) (n : Nat) : s.data.toList = (s.extract 0 n).data.toList ++ (s.extract n s.size).data.toList := by
 simp [List.take_of_length_le]
theorem units_cut (p : Part) (n : Nat) (hp : pureP p) (hn : n ≤ sizeP p) : unitsP p = unitsP (firstP p n) ++ unitsP (restQ p n) := by
 obtain ⟨p0, p1, p2⟩ := hp
 unfold firstP restQ
 by_cases a : 0 < p.f0
 ·obtain ⟨e1, e2⟩ := p1 (by omega)
  simp only [if_pos a, unitsP, data_nil e1, data_nil e2, List.map_nil, List.append_nil]
  simp only [sizeP, e1, e2] at hn
  rw [List.replicate_append_replicate]
  congr 1; omega
 ·have z : p.f0 = 0 := by omega
  simp only [if_neg a]
  by_cases b : p.f1.size = 0
  ·have hb : ¬ p.f1.size ≠ 0 := fun h => h b
   rw [if_neg hb, if_neg hb]
   simp only [unitsP, z, data_nil b, List.map_nil, List.nil_append, List.replicate_zero, Int.toNat_zero]
   rw [← List.map_append, ← ba_split]
  ·rw [if_pos b, if_pos b]
   have e2 := p2 b
   simp only [unitsP, z, data_nil e2, List.map_nil, List.append_nil, List.replicate_zero, Int.toNat_zero, List.nil_append]
   rw [← List.map_append, ← ba_split]
def zeroP (p : Part) : Bool := decide (p.f0 = 0) && decide (p.f1.size = 0) && decide (p.f2.size = 0)
theorem zeroP_iff (p : Part) : zeroP p = true ↔ p = ⟨0, noB, noB⟩ := by
 unfold zeroP
 constructor
 ·intro h
  simp only [Bool.and_eq_true, decide_eq_true_eq] at h
  exact part_ext p _ _ _ h.1.1 (ba_zero h.1.2) (ba_zero h.2)
 ·rintro rfl; rfl
def cutL (p : Part) (xs : List Part) (n : Nat) : List Part := if zeroP (restQ p n) = true then xs else restQ p n :: xs
theorem units_cutL (p : Part) (xs : List Part) (n : Nat) (hp : pureP p) (hn : n ≤ sizeP p) : unitsL (p :: xs) = unitsP (firstP p n) ++ unitsL (cutL p xs n) := by
 rw [unitsL_cons, units_cut p n hp hn, List.append_assoc]
 congr 1
 unfold cutL
 by_cases z : zeroP (restQ p n) = true
 ·rw [if_pos z, (zeroP_iff _).1 z]; rfl
 ·rw [if_neg z, unitsL_cons]
theorem unitsP_length (p : Part) : (unitsP p).length = sizeP p := by simp [unitsP, sizeP]; omega
theorem pure_first {p : Part} (n : Nat) (hp : pureP p) : pureP (firstP p n) := by
 obtain ⟨p0, p1, p2⟩ := hp
 unfold firstP
 by_cases a : 0 < p.f0
 ·rw [if_pos a]; exact ⟨by simp only; omega, fun _ => p1 (by omega), p2⟩
 ·rw [if_neg a]
  have z : p.f0 = 0 := by omega
  by_cases b : p.f1.size = 0
  ·rw [if_neg (fun h => h b)]; exact ⟨p0, fun h => absurd z h, fun h => absurd b h⟩
  ·rw [if_pos b]; exact ⟨p0, fun h => absurd z h, fun _ => p2 b⟩
theorem pure_rest {p : Part} (n : Nat) (hp : pureP p) (hn : n ≤ sizeP p) : pureP (restQ p n) := by
 obtain ⟨p0, p1, p2⟩ := hp
 unfold restQ
 by_cases a : 0 < p.f0
 ·obtain ⟨e1, e2⟩ := p1 (by omega)
  simp only [sizeP, e1, e2] at hn
  rw [if_pos a]; exact ⟨by simp only; omega, fun _ => ⟨e1, e2⟩, p2⟩
 ·rw [if_neg a]
  have z : p.f0 = 0 := by omega
  by_cases b : p.f1.size = 0
  ·rw [if_neg (fun h => h b)]; exact ⟨p0, fun h => absurd z h, fun h => absurd b h⟩
  ·rw [if_pos b]; exact ⟨p0, fun h => absurd z h, fun _ => p2 b⟩
def fullP (p : Part) : Prop := pureP p ∧ 0 < sizeP p
theorem zeroP_size {p : Part} (hp : pureP p) : zeroP p = false → 0 < sizeP p := by
 intro h
 have h0 := hp.1
 rcases Nat.eq_zero_or_pos (sizeP p) with z | z
 ·simp only [sizeP] at z
  have : zeroP p = true := by simp only [zeroP, Bool.and_eq_true, decide_eq_true_eq]; omega
  rw [this] at h; cases h
 ·exact z
theorem full_cutL {p : Part} {xs : List Part} (n : Nat) (hp : pureP p) (hn : n ≤ sizeP p) (hx : ∀ q ∈ xs, fullP q) : ∀ q ∈ cutL p xs n, fullP q := by
 unfold cutL
 cases z : zeroP (restQ p n) with
 | true => simpa using hx
 | false =>
  have hr := pure_rest n hp hn
  intro q hq
  rw [if_neg (by simp)] at hq
  rcases List.mem_cons.1 hq with rfl | hq
  ·exact ⟨hr, zeroP_size hr z⟩
  ·exact hx q hq

theorem compU_drops (l : List UInt8) (xs ys : List U) (m : Mk) : compU (l.map U.d ++ xs) ys m = compU xs ys ((l.map U.d).foldl stepU m) := by
 induction l generalizing m with
 | nil => rfl
 | cons c l ih => rw [List.map_cons, List.cons_append, compU_d, ih]; rfl
theorem compU_puts (l : List UInt8) (xs ys : List U) (m : Mk) : compU xs (l.map U.p ++ ys) m = compU xs ys ((l.map U.p).foldl stepU m) := by
 induction l generalizing m with
 | nil => rfl
 | cons c l ih => rw [List.map_cons, List.cons_append, compU_p, ih]; rfl
theorem compU_keeps (n : Nat) (xs ys : List U) (m : Mk) : compU (List.replicate n U.k ++ xs) (List.replicate n U.k ++ ys) m = compU xs ys ((List.replicate n U.k).foldl stepU m) := by
 induction n generalizing m with
 | zero => rfl
 | succ n ih => rw [List.replicate_succ, List.cons_append, List.cons_append, compU_kk, ih]; rfl
theorem compU_keepdrop (l : List UInt8) (xs ys : List U) (m : Mk) : compU (List.replicate l.length U.k ++ xs) (l.map U.d ++ ys) m = compU xs ys ((l.map U.d).foldl stepU m) := by
 induction l generalizing m with
 | nil => rfl
 | cons c l ih => rw [List.length_cons, List.replicate_succ, List.map_cons, List.cons_append, List.cons_append, compU_kd, ih]; rfl
theorem compU_putkeep (l : List UInt8) (xs ys : List U) (m : Mk) : compU (l.map U.p ++ xs) (List.replicate l.length U.k ++ ys) m = compU xs ys ((l.map U.p).foldl stepU m) := by
 induction l generalizing m with
 | nil => rfl
 | cons c l ih => rw [List.length_cons, List.replicate_succ, List.map_cons, List.cons_append, List.cons_append, compU_pk, ih]; rfl
theorem compU_putdrop (l l' : List UInt8) (h : l.length = l'.length) (xs ys : List U) (m : Mk) : compU (l.map U.p ++ xs) (l'.map U.d ++ ys) m = if l = l' then compU xs ys m else none := by
 induction l generalizing l' with
 | nil => cases l' with
  | nil => rfl
  | cons c l' => simp at h
 | cons c l ih =>
  cases l' with
  | nil => simp at h
  | cons e l' =>
   rw [List.map_cons, List.map_cons, List.cons_append, List.cons_append, compU_pd, ih l' (by simpa using h)]
   by_cases a : c = e
   ·by_cases b : l = l'
    ·rw [if_pos a, if_pos b, if_pos (by rw [a, b])]
    ·rw [if_pos a, if_neg b, if_neg (fun h => b (List.cons.inj h).2)]
   ·rw [if_neg a, if_neg (fun h => a (List.cons.inj h).1)]

theorem pure_drop {p : Part} (hp : pureP p) (h : p.f2.size ≠ 0) : p = ⟨0, noB, p.f2⟩ := by
 obtain ⟨p0, p1, p2⟩ := hp
 have z : p.f0 = 0 := by
  rcases Int.lt_or_le 0 p.f0 with a | a
  ·exact absurd (p1 (by omega)).2 h
  ·omega
 have z1 : p.f1.size = 0 := by
  rcases Nat.eq_zero_or_pos p.f1.size with a | a
  ·exact a
  ·exact absurd (p2 (by omega)) h
 exact part_ext p _ _ _ z (ba_zero z1) rfl
theorem pure_put {p : Part} (hp : pureP p) (h : p.f1.size ≠ 0) : p = ⟨0, p.f1, noB⟩ := by
 obtain ⟨p0, p1, p2⟩ := hp
 have z : p.f0 = 0 := by
  rcases Int.lt_or_le 0 p.f0 with a | a
  ·exact absurd (p1 (by omega)).1 h
  ·omega
 exact part_ext p _ _ _ z rfl (ba_zero (p2 h))
theorem pure_keep {p : Part} (hp : pureP p) (h : 0 < p.f0) : p = ⟨p.f0, noB, noB⟩ := by
 obtain ⟨p0, p1, p2⟩ := hp
 obtain ⟨e1, e2⟩ := p1 (by omega)
 exact part_ext p _ _ _ rfl (ba_zero e1) (ba_zero e2)
theorem units_drop (s : ByteArray) : unitsP ⟨0, noB, s⟩ = s.data.toList.map U.d := by simp [unitsP, noB]
theorem units_put (s : ByteArray) : unitsP ⟨0, s, noB⟩ = s.data.toList.map U.p := by simp [unitsP, noB]
theorem units_kept (n : Int) : unitsP ⟨n, noB, noB⟩ = List.replicate n.toNat U.k := by simp [unitsP, noB]
theorem comp_drop {p : Part} (hp : pureP p) (h : p.f2.size ≠ 0) (xs : List Part) (ys : List U) (m : Mk) : compU (unitsL (p :: xs)) ys m = compU (unitsL xs) ys (takeM m p) := by
 rw [unitsL_cons, ← takeM_units m p hp.1, pure_drop hp h, units_drop, compU_drops]
theorem comp_put {p : Part} (hp : pureP p) (h : p.f1.size ≠ 0) (xs : List U) (ys : List Part) (m : Mk) : compU xs (unitsL (p :: ys)) m = compU xs (unitsL ys) (takeM m p) := by
 rw [unitsL_cons, ← takeM_units m p hp.1, pure_put hp h, units_put, compU_puts]
theorem first_keep {p : Part} (h : 0 < p.f0) (hp : pureP p) (n : Nat) : firstP p n = ⟨n, noB, noB⟩ := by
 rw [pure_keep hp h]; unfold firstP; simp only [if_pos h]
theorem first_put {p : Part} (hp : pureP p) (h : p.f1.size ≠ 0) (n : Nat) : firstP p n = ⟨0, p.f1.extract 0 n, noB⟩ := by
 have e := pure_put hp h
 have z : p.f0 = 0 := by rw [e]
 unfold firstP
 rw [if_neg (by omega), if_pos h, z, show p.f2 = noB by rw [e]]
theorem first_drop {p : Part} (hp : pureP p) (h : p.f2.size ≠ 0) (n : Nat) : firstP p n = ⟨0, noB, p.f2.extract 0 n⟩ := by
 have e := pure_drop hp h
 have z : p.f0 = 0 := by rw [e]
 have z1 : p.f1 = noB := by rw [e]
 unfold firstP
 rw [if_neg (by omega), if_neg (by rw [z1]; simp [noB_size]), z, z1]
theorem comp_both {p q : Part} (hp : fullP p) (hq : fullP q) (h1 : p.f2.size = 0) (h2 : q.f1.size = 0) (xs ys : List Part) (m : Mk) (n : Nat) (hn : n ≤ sizeP p) (hn' : n ≤ sizeP q) :
  compU (unitsL (p :: xs)) (unitsL (q :: ys)) m =
   if 0 < q.f0 then compU (unitsL (cutL p xs n)) (unitsL (cutL q ys n)) (takeM m (firstP p n))
   else if 0 < p.f0 then compU (unitsL (cutL p xs n)) (unitsL (cutL q ys n)) (takeM m (firstP q n))
   else if (firstP p n).f1 = (firstP q n).f2 then compU (unitsL (cutL p xs n)) (unitsL (cutL q ys n)) m else none := by
 obtain ⟨hp, hp'⟩ := hp
 obtain ⟨hq, hq'⟩ := hq
 rw [units_cutL p xs n hp hn, units_cutL q ys n hq hn']
 generalize unitsL (cutL p xs n) = X
 generalize unitsL (cutL q ys n) = Y
 rw [← takeM_units m (firstP p n) (pure_first n hp).1, ← takeM_units m (firstP q n) (pure_first n hq).1]
 by_cases b : 0 < q.f0
 ·rw [if_pos b, first_keep b hq, units_kept]
  by_cases a : 0 < p.f0
  ·rw [first_keep a hp, units_kept]; exact compU_keeps _ _ _ _
  ·have a1 : p.f1.size ≠ 0 := by simp only [sizeP] at hp'; have := hp.1; omega
   have hl : n = (p.f1.extract 0 n).data.toList.length := by
    have : p.f0.toNat = 0 := by have := hp.1; omega
    simp only [sizeP, this, h1] at hn; simp; omega
   rw [first_put hp a1, units_put]
   have := compU_putkeep (p.f1.extract 0 n).data.toList X Y m
   rw [← hl] at this
   exact this
 ·have b2 : q.f2.size ≠ 0 := by simp only [sizeP] at hq'; have := hq.1; omega
  have hl : n = (q.f2.extract 0 n).data.toList.length := by
   have : q.f0.toNat = 0 := by have := hq.1; omega
   simp only [sizeP, this, h2] at hn'; simp; omega
  rw [if_neg b, first_drop hq b2, units_drop]
  by_cases a : 0 < p.f0
  ·rw [if_pos a, first_keep a hp, units_kept]
   have := compU_keepdrop (q.f2.extract 0 n).data.toList X Y m
   rw [← hl] at this
   exact this
  ·have a1 : p.f1.size ≠ 0 := by simp only [sizeP] at hp'; have := hp.1; omega
   have hl2 : n = (p.f1.extract 0 n).data.toList.length := by
    have : p.f0.toNat = 0 := by have := hp.1; omega
    simp only [sizeP, this, h1] at hn; simp; omega
   rw [if_neg a, first_put hp a1, units_put, compU_putdrop _ _ (by rw [← hl, ← hl2])]
   by_cases c : (p.f1.extract 0 n).data.toList = (q.f2.extract 0 n).data.toList
   ·rw [if_pos c, if_pos (bd_ext c)]
   ·rw [if_neg c, if_neg (fun h => c (by simp only at h; rw [h]))]
theorem comp_done (m : Mk) : compU (unitsL []) (unitsL []) m = some m := by rw [show unitsL [] = [] from rfl, compU]
theorem takesU_cons (u : U) (l : List U) : takesU (u :: l) = (match u with | .p _ => 0 | _ => 1) + takesU l := rfl
theorem makesU_cons (u : U) (l : List U) : makesU (u :: l) = (match u with | .d _ => 0 | _ => 1) + makesU l := rfl
theorem takesU_app (a b : List U) : takesU (a ++ b) = takesU a + takesU b := by simp [takesU]
theorem makesU_app (a b : List U) : makesU (a ++ b) = makesU a + makesU b := by simp [makesU]
theorem takesU_part (p : Part) : takesU (unitsP p) = p.f0.toNat + p.f2.size := by
 unfold unitsP
 rw [takesU_app, takesU_app]
 have h0 : takesU (List.replicate p.f0.toNat U.k) = p.f0.toNat := by simp [takesU]
 have h1 : ∀ l : List UInt8, takesU (l.map U.p) = 0 := by intro l; induction l with | nil => rfl | cons c l ih => simp only [List.map_cons, takesU_cons, ih]
 have h2 : ∀ l : List UInt8, takesU (l.map U.d) = l.length := by intro l; induction l with | nil => rfl | cons c l ih => simp only [List.map_cons, takesU_cons, ih, List.length_cons]; omega
 rw [h0, h1, h2]; simp
theorem makesU_part (p : Part) : makesU (unitsP p) = p.f0.toNat + p.f1.size := by
 unfold unitsP
 rw [makesU_app, makesU_app]
 have h0 : makesU (List.replicate p.f0.toNat U.k) = p.f0.toNat := by simp [makesU]
 have h1 : ∀ l : List UInt8, makesU (l.map U.p) = l.length := by intro l; induction l with | nil => rfl | cons c l ih => simp only [List.map_cons, makesU_cons, ih, List.length_cons]; omega
 have h2 : ∀ l : List UInt8, makesU (l.map U.d) = 0 := by intro l; induction l with | nil => rfl | cons c l ih => simp only [List.map_cons, makesU_cons, ih]
 rw [h0, h1, h2]; simp
theorem takesU_units (l : List Part) : takesU (unitsL l) = (l.map fun p => p.f0.toNat + p.f2.size).sum := by
 induction l with
 | nil => rfl
 | cons p l ih => rw [unitsL_cons, takesU_app, takesU_part, ih]; simp
theorem makesU_units (l : List Part) : makesU (unitsL l) = (l.map fun p => p.f0.toNat + p.f1.size).sum := by
 induction l with
 | nil => rfl
 | cons p l ih => rw [unitsL_cons, makesU_app, makesU_part, ih]; simp

theorem keepL_length (o : List Part) (n : Int) : (keepL o n).length ≤ o.length + 1 := by
 rcases List.eq_nil_or_concat o with rfl | ⟨o, q, rfl⟩
 ·rw [keepL_nil]; simp
 ·rw [List.concat_eq_append, keepL_snoc]
  split <;> simp <;> omega
theorem putPart_length (s : ByteArray) : (putPart s).length ≤ 1 := by unfold putPart; split <;> simp
theorem dropPart_length (s : ByteArray) : (dropPart s).length ≤ 1 := by unfold dropPart; split <;> simp
theorem putPart_app (s t : ByteArray) : (putPart (s ++ t)).length ≤ (putPart s).length + (if t.size = 0 then 0 else 1) := by
 unfold putPart
 have := ba_size_app s t
 by_cases a : s.size = 0
 ·by_cases b : t.size = 0
  ·rw [if_pos (by omega), if_pos a, if_pos b]; simp
  ·rw [if_neg (by omega), if_pos a, if_neg b]; simp
 ·rw [if_neg (by omega), if_neg a]; simp
theorem dropPart_app (s t : ByteArray) : (dropPart (s ++ t)).length ≤ (dropPart s).length + (if t.size = 0 then 0 else 1) := by
 unfold dropPart
 have := ba_size_app s t
 by_cases a : s.size = 0
 ·by_cases b : t.size = 0
  ·rw [if_pos (by omega), if_pos a, if_pos b]; simp
  ·rw [if_neg (by omega), if_pos a, if_neg b]; simp
 ·rw [if_neg (by omega), if_neg a]; simp
theorem madeL_length (m : Mk) : (madeL m).length = m.out.length + ((putPart m.put).length + (dropPart m.drop).length) := by simp [madeL]
theorem take_length (m : Mk) (p : Part) (hp : fullP p) : (madeL (takeM m p)).length ≤ (madeL m).length + sizeP p := by
 obtain ⟨hp, hs⟩ := hp
 obtain ⟨p0, p1, p2⟩ := hp
 rw [madeL_length, madeL_length]
 unfold takeM keepM sizeP at *
 by_cases z : p.f0 = 0
 ·rw [if_pos z]
  have h1 := putPart_app m.put p.f1
  have h2 := dropPart_app m.drop p.f2
  simp only
  by_cases a : p.f1.size = 0
  ·by_cases b : p.f2.size = 0
   ·rw [if_pos a] at h1; rw [if_pos b] at h2; omega
   ·rw [if_pos a] at h1; rw [if_neg b] at h2; omega
  ·have b := p2 a
   rw [if_neg a] at h1; rw [if_pos b] at h2; omega
 ·rw [if_neg z]
  obtain ⟨e1, e2⟩ := p1 z
  have h1 := putPart_app noB p.f1
  have h2 := dropPart_app noB p.f2
  rw [if_pos e1] at h1; rw [if_pos e2] at h2
  have h3 : (putPart noB).length = 0 := rfl
  have h4 : (dropPart noB).length = 0 := rfl
  have h5 := keepL_length (madeL m) p.f0
  rw [madeL_length] at h5
  simp only
  omega
structure IsMk (base : Nat) (W : World) (g : Nat) (v : Value) (m : Mk) : Prop where
 blk : W.heap[g]? = some (.cells #[v, .string m.put, .string m.drop] 132 (0, 0))
 ge : base ≤ g
 row : W.ownsRow base 86 3 v m.out.length (m.out.flatMap cellsP)
structure MStep (base g : Nat) (v v' : Value) (w w' : World) : Prop where
 below : Below base w w'
 kept : Kept w w' (fun k => k = g ∨ some k = v.ownBlock)
 own : v'.ownBlock = v.ownBlock ∨ ∃ b, v'.ownBlock = some b ∧ w.heap.size ≤ b
def MkPost (base g : Nat) (v : Value) (w : World) (m : Mk) (w' : World) : Prop := ∃ v', IsMk base w' g v' m ∧ MStep base g v v' w w'
theorem MStep.refl (base g : Nat) (v : Value) (w : World) : MStep base g v v w w := ⟨Below.refl _ _, Kept.refl _ _, .inl rfl⟩
theorem MStep.drew (base g : Nat) (v : Value) (w : World) : MStep base g v v w w.drew := ⟨below_drew (Below.refl _ _), (Kept.refl _ _).drew, .inl rfl⟩
theorem MStep.set_ {base g : Nat} {v v' : Value} {w w1 : World} (h : MStep base g v v' w w1) (hg : base ≤ g) (j : Nat) (u : Value) : MStep base g v v' w (w1.setCell ⟨g, j, none⟩ u) :=
 ⟨h.1.setCell hg u, h.2.setCell (.inl (.inl rfl)) u, h.3⟩
theorem MStep.trans {base g : Nat} {v v1 v2 : Value} {w w1 w2 : World} (h : MStep base g v v1 w w1) (k : MStep base g v1 v2 w1 w2) : MStep base g v v2 w w2 := by
 refine ⟨h.1.trans k.1, h.2.then_ k.2 (fun i hi => ?_), ?_⟩
 ·rcases hi with hi | hi
  ·exact .inl (.inl hi)
  ·rcases h.3 with e | ⟨b, e, hle⟩
   ·exact .inl (.inr (hi.trans e))
   ·rw [e] at hi; injection hi with hi; exact .inr (hi ▸ hle)
 ·rcases k.3 with e | ⟨b, e, hle⟩
  ·rcases h.3 with e2 | ⟨b2, e2, hle2⟩
   ·exact .inl (e.trans e2)
   ·exact .inr ⟨b2, e.trans e2, hle2⟩
  ·exact .inr ⟨b, e, Nat.le_trans h.2.1 hle⟩
theorem MStep.below' {base g : Nat} {v v' : Value} {w w1 w2 : World} (h : MStep base g v v' w w1) (hb : Below w1.heap.size w1 w2) (hs : base ≤ w.heap.size) : MStep base g v v' w w2 :=
 ⟨h.1.trans (hb.mono (Nat.le_trans hs h.1.size)), h.2.below hb, h.3⟩
theorem IsMk.cells {base g : Nat} {v : Value} {m : Mk} {w : World} (h : IsMk base w g v m) :
  w.cell? ⟨g, 0, none⟩ = some v ∧ w.cell? ⟨g, 1, none⟩ = some (.string m.put) ∧ w.cell? ⟨g, 2, none⟩ = some (.string m.drop) ∧ w.frozen? ⟨g, 0, none⟩ = false ∧ w.frozen? ⟨g, 1, none⟩ = false ∧ w.frozen? ⟨g, 2, none⟩ = false :=
 ⟨(blk_cell h.blk 0).trans rfl, (blk_cell h.blk 1).trans rfl, (blk_cell h.blk 2).trans rfl, blk_frozen h.blk 0, blk_frozen h.blk 1, blk_frozen h.blk 2⟩
theorem IsMk.drew {base g : Nat} {v : Value} {m : Mk} {w : World} (h : IsMk base w g v m) : IsMk base w.drew g v m := ⟨h.blk, h.ge, own_drew h.row⟩
theorem IsMk.below {base g : Nat} {v : Value} {m : Mk} {w w1 : World} (h : IsMk base w g v m) (hb : Below w.heap.size w w1) : IsMk base w1 g v m :=
 ⟨blk_below h.blk hb, h.ge, own_move h.row (fun k hk => hb.block k (own_lt h.row k hk))⟩
theorem IsMk.apart {base g : Nat} {v : Value} {m : Mk} {w : World} (h : IsMk base w g v m) : some g ≠ v.ownBlock := own_ne h.row h.blk (by decide)
theorem IsMk.lt {base g : Nat} {v : Value} {m : Mk} {w : World} (h : IsMk base w g v m) : base ≤ w.heap.size := Nat.le_of_lt (Nat.lt_of_le_of_lt h.ge (blk_lt h.blk))
theorem IsMk.set1 {base g : Nat} {v : Value} {m : Mk} {w : World} (h : IsMk base w g v m) (s : ByteArray) : IsMk base (w.setCell ⟨g, 1, none⟩ (.string s)) g v ⟨m.out, s, m.drop⟩ :=
 ⟨by simpa using blk_set h.blk 1 (.string s), h.ge, own_setCell h.row h.apart _⟩
theorem IsMk.set2 {base g : Nat} {v : Value} {m : Mk} {w : World} (h : IsMk base w g v m) (s : ByteArray) : IsMk base (w.setCell ⟨g, 2, none⟩ (.string s)) g v ⟨m.out, m.put, s⟩ :=
 ⟨by simpa using blk_set h.blk 2 (.string s), h.ge, own_setCell h.row h.apart _⟩
theorem cells_new (W : World) (p : Part) (e : Nat) : ∀ j u, (cellsP p)[j]? = some u → (W.alloc (.cells (cellsP p).toArray e)).cell? ((⟨W.heap.size, 0, none⟩ : Addr).add j) = some u := by
 intro j u hj
 rw [add_plain, cell_of_row (W.alloc (.cells (cellsP p).toArray e)) W.heap.size j (cellsP p).toArray e (0, 0) (by simpa using heap_alloc_new W _)]
 simpa using hj
theorem mk_app {base g : Nat} {v : Value} {m : Mk} {w w1 : World} {p : Part} {e0 g1 cap1 : Nat} (h : IsMk base w g v m)
  (ho : w1.ownsRow base 86 3 (.slice (some ⟨g1, 0, none⟩) (m.out.length + 1) cap1) (m.out.length + 1) (m.out.flatMap cellsP ++ cellsP p)) (hg : (w.alloc (.cells (cellsP p).toArray e0)).grownBy w1 v.ownBlock) (hat : v.ownBlock = some g1 ∨ g1 = w.heap.size + 1) :
  w1.heap[g]? = some (.cells #[v, .string m.put, .string m.drop] 132 (0, 0)) ∧ MkPost base g v w ⟨m.out ++ [p], m.put, m.drop⟩ (w1.setCell ⟨g, 0, none⟩ (.slice (some ⟨g1, 0, none⟩) (m.out.length + 1) cap1)) := by
 have hg0 : w.grownBy w1 v.ownBlock := (World.grownBy_alloc w _ _).trans hg
 have hb := blk_grown h.blk hg0 h.apart
 have hb2 : w1.heap[g]? = some (.cells #[v, .string m.put, .string m.drop] 132 (0, 0)) := hb
 have hne : some g ≠ (Value.slice (some ⟨g1, 0, none⟩) (m.out.length + 1) cap1).ownBlock := own_ne ho hb (by decide)
 have hl : (m.out ++ [p]).length = m.out.length + 1 := by simp
 have hf : (m.out ++ [p]).flatMap cellsP = m.out.flatMap cellsP ++ cellsP p := by rw [List.flatMap_append, List.flatMap_cons, List.flatMap_nil, List.append_nil]
 refine ⟨hb2, .slice (some ⟨g1, 0, none⟩) (m.out.length + 1) cap1, ⟨blk_put hb 0 _ rfl, h.ge, ?_⟩, ?_⟩
 ·show World.ownsRow _ base _ 3 _ (m.out ++ [p]).length ((m.out ++ [p]).flatMap cellsP)
  rw [hl, hf]
  exact own_setCell ho hne _
 ·refine MStep.set_ ⟨(Below.refl base w).grown hg0 h.lt (fun k hk => own_base h.row k hk), (Kept.refl w _).of_grown hg0 (fun k hk => .inl (.inr hk.symm)), ?_⟩ h.ge 0 _
  rcases hat with e | e
  ·exact .inl e.symm
  ·exact .inr ⟨g1, rfl, by omega⟩
theorem mk_undrew {base g : Nat} {v : Value} {w w' : World} {m : Mk} (h : MkPost base g v w.drew m w') : MkPost base g v w m w' := by
 obtain ⟨v', h1, h2⟩ := h
 exact ⟨v', h1, ⟨⟨h2.1.os, h2.1.tape, h2.1.output, h2.1.size, h2.1.block⟩, ⟨h2.2.1, h2.2.2⟩, h2.3⟩⟩
theorem end_none {P : Program} {fn : Func} {R : Ending → World → Prop} {a : Act} {w : World} (hr : fn.results = #[]) (hd : a.defers = []) (hR : R (.returned (.tuple #[])) w) : bodyPost P fn R .normal a w ∧ bodyPost P fn R .ret a w := by
 have : a.defers = [] ∧ ∃ v, (results fn a.tmps).run P w = .ok v w ∧ R (.returned v) w := ⟨hd, .tuple #[], by simp [results, hr], hR⟩
 exact ⟨this, this⟩
theorem flat_snoc (o : List Part) (q : Part) : (o ++ [q]).flatMap cellsP = o.flatMap cellsP ++ cellsP q := by rw [List.flatMap_append, List.flatMap_cons, List.flatMap_nil, List.append_nil]
theorem flat_set0 (o : List Part) (q : Part) (n : Int) : ((o ++ [q]).flatMap cellsP).set (o.length * 3) (.int .i64 n) = (o ++ [(⟨n, q.f1, q.f2⟩ : Part)]).flatMap cellsP := by
 rw [flat_snoc, flat_snoc, List.set_append_right _ _ (by rw [flat_length cellsP 3 cellsP_len]; exact Nat.le_refl _), flat_length cellsP 3 cellsP_len, Nat.sub_self]; rfl
theorem flat_get0 (o : List Part) (q : Part) : ((o ++ [q]).flatMap cellsP)[o.length * 3]? = some (.int .i64 q.f0) := by
 rw [flat_snoc, List.getElem?_append_right (by rw [flat_length cellsP 3 cellsP_len]; exact Nat.le_refl _), flat_length cellsP 3 cellsP_len, Nat.sub_self]; rfl
theorem mk_last {base g : Nat} {v : Value} {o : List Part} {q : Part} {put drop : ByteArray} {w : World} (h : IsMk base w g v ⟨o ++ [q], put, drop⟩) :
  ∃ gr cap, v = .slice (some ⟨gr, 0, none⟩) (o.length + 1) cap ∧ w.cell? ⟨gr, o.length * 3, none⟩ = some (.int .i64 q.f0) ∧ w.frozen? ⟨gr, o.length * 3, none⟩ = false ∧
   ∀ n, IsMk base (w.setCell ⟨gr, o.length * 3, none⟩ (.int .i64 n)) g v ⟨o ++ [⟨n, q.f1, q.f2⟩], put, drop⟩ ∧ MStep base g v v w (w.setCell ⟨gr, o.length * 3, none⟩ (.int .i64 n)) := by
 have ha := h.apart
 obtain ⟨hb, hg, hr⟩ := h
 simp only [List.length_append, List.length_cons, List.length_nil, Nat.zero_add] at hr
 rcases hr.2 with ⟨_, h0⟩ | ⟨gr, cap, cur, rfl, hgb, hh, _⟩
 ·omega
 ·have hc := hr.cells (g := gr) rfl _ _ (flat_get0 o q)
  rw [add_plain] at hc
  refine ⟨gr, cap, rfl, hc, blk_frozen hh _, fun n => ?_⟩
  have hs := hr.stored (o.length * 3) (.int .i64 n)
  rw [flat_set0] at hs
  have hne : g ≠ gr := fun e => ha (by rw [e]; rfl)
  refine ⟨⟨blk_far (p := ⟨gr, o.length * 3, none⟩) hb hne _, hg, by simpa using hs.1⟩, ⟨(Below.refl base w).setCell hgb _, (Kept.refl w _).setCell (.inl (.inr rfl)) _, .inl rfl⟩⟩
theorem size_empty (s : ByteArray) : s.toList.isEmpty = decide (s.size = 0) := by
 rw [Bool.eq_iff_iff, List.isEmpty_iff]; simp [toList_nil]
set_option maxHeartbeats 4000000 in
set_option maxRecDepth 100000 in
theorem mk_end_walk (base g : Nat) (v : Value) (out : List Part) (put drop : ByteArray) (w : World) (h : IsMk base w g v ⟨out, put, drop⟩) (hl : out.length ≤ 1000000) :
  Calls Try.prog 127 #[.pointer (some ⟨g, 0, none⟩)] w fun e w' => e = .returned (.tuple #[]) ∧ MkPost base g v w ⟨madeL ⟨out, put, drop⟩, noB, noB⟩ w' := by
 have HM := mz h
 clear h
 by_cases hp : put.size = 0
 ·by_cases hd : drop.size = 0
  ·have hput : put.toList.isEmpty = true := by rw [size_empty]; simp [hp]
   have hdrop : drop.toList.isEmpty = true := by rw [size_empty]; simp [hd]
   have hp3 : (put.toList = []) := by rw [toList_nil]; exact hp
   have hd3 : (drop.toList = []) := by rw [toList_nil]; exact hd
   have HE : Aside0 (madeL ⟨out, put, drop⟩ = out) := ⟨by simp [madeL, putPart, dropPart, hp, hd]⟩
   clear hp hd
   obtain ⟨c0, c1, c2, f0, f1, f2⟩ := HM.out.cells
   go_enter Try.func127, Try.ntmps127
   go_wp2_with fail
   refine (end_none (by kernel_rfl) rfl ?_).1
   refine ⟨rfl, _, by rw [HE.out]; exact (HM.out.set1 noB).set2 noB, ?_⟩
   exact (MStep.refl base g _ _).set_ HM.out.ge 1 _ |>.set_ HM.out.ge 2 _
  ·have hput : put.toList.isEmpty = true := by rw [size_empty]; simp [hp]
   have hdrop : drop.toList.isEmpty = false := by rw [size_empty]; simp [hd]
   have hp3 : (put.toList = []) := by rw [toList_nil]; exact hp
   have hd3 : ¬ (drop.toList = []) := by rw [toList_nil]; exact hd
   have HE : Aside0 (madeL ⟨out, put, drop⟩ = out ++ [⟨0, ⟨#[]⟩, drop⟩]) := ⟨by simp [madeL, putPart, dropPart, hp, hd, noB]⟩
   clear hp hd
   obtain ⟨c0, c1, c2, f0, f1, f2⟩ := HM.out.cells
   go_enter Try.func127, Try.ntmps127
   go_wp2_with fail
   have hl2 : out.length ≤ 1000001 := by omega
   refine wp_region_last_drew (ds := [14]) (S := fun W' => W'.heap[g]? = some (.cells #[v, .string put, .string drop] 132 (0, 0))) (by kernel_rfl) (HM.out.blk) (fun hH => ?_)
   have F : ∀ W' : World, W'.heap[g]? = some (.cells #[v, .string put, .string drop] 132 (0, 0)) → W'.cell? ⟨g, 0, none⟩ = some v ∧ W'.cell? ⟨g, 1, none⟩ = some (.string put) ∧ W'.cell? ⟨g, 2, none⟩ = some (.string drop) := fun W' hb => cells3 hb
   refine' yT 0 F ?_
   refine' yT 1 F ?_
   refine' yT 2 F ?_
   refine' yT 3 F ?_
   refine' yT 4 F ?_
   refine' yT 5 F ?_
   refine' yT 6 F ?_
   refine' yT 7 F ?_
   refine' yT 8 F ?_
   refine' yT 9 F ?_
   refine' yV 10 (v := .slice (some ⟨w.heap.size, 0, none⟩) 1 1) (w1 := w.drew.alloc (.cells (cellsP ⟨0, ⟨#[]⟩, drop⟩).toArray 86)) (blk_alloc hH _) (fun hH2 => ?_)
   obtain ⟨i0, hi, hz0, hz1, hz2⟩ := info_parts info86
   refine yA 11 (.tmp 30) (.tmp 36) 34 base 86 i0 (.agg #[.int .i64 0, .string ⟨#[]⟩, .string ⟨#[]⟩]) 3 40 Try.underlying34 hi hz0 hz1 hz2 rfl (by decide) v out.length (out.flatMap cellsP) (by rfl) (own_alloc (own_drew HM.out.row) _) ⟨w.heap.size, 0, none⟩ 1 1 (cellsP ⟨0, ⟨#[]⟩, drop⟩) (by rfl) rfl (cells_new _ _ _) (fun u hu => cells_one [⟨0, ⟨#[]⟩, drop⟩] u (by simpa using hu)) (by omega) (by unfold maxLen; omega) (by omega) (Nat.le_trans HM.out.lt (by simp)) ?_
   intro g1 cap1 w1 ho hg hat hlt
   have HAP := mz (mk_app HM.out.drew ho hg (hat.imp id (fun h => h.trans (by simp))))
   have HB1 := mz HAP.out.1
   refine ⟨HAP.out.1, ?_⟩
   intro a' ha'
   (try simp only [Act.put, List.getElem_toArray, List.getElem_cons_succ, List.getElem_cons_zero, List.setIfInBounds_toArray, List.set_cons_zero, List.set_cons_succ] at ha')
   subst ha'
   intro hH3
   clear ho hg hat hlt hi hz0 hz1 hz2
   refine' yT 12 F ?_
   refine' yT 13 F ?_
   have fz := blk_frozen hH3 0
   have cz : w1.cell? ⟨g, 0, none⟩ = some v := (blk_cell hH3 0).trans rfl
   refine' yL 14 (w1 := w1.setCell ⟨g, 0, none⟩ (.slice (some ⟨g1, 0, none⟩) (out.length + 1) cap1)) ?_
   refine done_ (by kernel_rfl) ?_
   have HP := mz (mk_undrew HAP.out.2)
   clear hH hH2 hH3 F HAP HB1 fz cz
   generalize w1.setCell ⟨g, 0, none⟩ (.slice (some ⟨g1, 0, none⟩) (out.length + 1) cap1) = wb at HP ⊢
   obtain ⟨vb, hM1, hS1⟩ := HP.out
   have HMb := mz hM1
   have HSb := mz hS1
   clear HP hM1 hS1
   clear c0 c1 c2 f0 f1 f2
   obtain ⟨c0, c1, c2, f0, f1, f2⟩ := HMb.out.cells
   go_wp2_with fail
   refine (end_none (by kernel_rfl) rfl ?_).1
   refine ⟨rfl, _, by rw [HE.out]; exact (HMb.out.set1 noB).set2 noB, ?_⟩
   exact (HSb.out).set_ HMb.out.ge 1 _ |>.set_ HMb.out.ge 2 _
 ·by_cases hd : drop.size = 0
  ·have hput : put.toList.isEmpty = false := by rw [size_empty]; simp [hp]
   have hdrop : drop.toList.isEmpty = true := by rw [size_empty]; simp [hd]
   have hp3 : ¬ (put.toList = []) := by rw [toList_nil]; exact hp
   have hd3 : (drop.toList = []) := by rw [toList_nil]; exact hd
   have HE : Aside0 (madeL ⟨out, put, drop⟩ = out ++ [⟨0, put, ⟨#[]⟩⟩]) := ⟨by simp [madeL, putPart, dropPart, hp, hd, noB]⟩
   clear hp hd
   obtain ⟨c0, c1, c2, f0, f1, f2⟩ := HM.out.cells
   go_enter Try.func127, Try.ntmps127
   go_wp2_with fail
   refine wp_region_last_drew (ds := [14]) (S := fun W' => W'.heap[g]? = some (.cells #[v, .string put, .string drop] 132 (0, 0))) (by kernel_rfl) (HM.out.blk) (fun hH => ?_)
   have F : ∀ W' : World, W'.heap[g]? = some (.cells #[v, .string put, .string drop] 132 (0, 0)) → W'.cell? ⟨g, 0, none⟩ = some v ∧ W'.cell? ⟨g, 1, none⟩ = some (.string put) ∧ W'.cell? ⟨g, 2, none⟩ = some (.string drop) := fun W' hb => cells3 hb
   refine' yT 0 F ?_
   refine' yT 1 F ?_
   refine' yT 2 F ?_
   refine' yT 3 F ?_
   refine' yT 4 F ?_
   refine' yT 5 F ?_
   refine' yT 6 F ?_
   refine' yT 7 F ?_
   refine' yT 8 F ?_
   refine' yT 9 F ?_
   refine' yV 10 (v := .slice (some ⟨w.heap.size, 0, none⟩) 1 1) (w1 := w.drew.alloc (.cells (cellsP ⟨0, put, ⟨#[]⟩⟩).toArray 86)) (blk_alloc hH _) (fun hH2 => ?_)
   obtain ⟨i0, hi, hz0, hz1, hz2⟩ := info_parts info86
   refine yA 11 (.tmp 11) (.tmp 17) 34 base 86 i0 (.agg #[.int .i64 0, .string ⟨#[]⟩, .string ⟨#[]⟩]) 3 40 Try.underlying34 hi hz0 hz1 hz2 rfl (by decide) v out.length (out.flatMap cellsP) (by rfl) (own_alloc (own_drew HM.out.row) _) ⟨w.heap.size, 0, none⟩ 1 1 (cellsP ⟨0, put, ⟨#[]⟩⟩) (by rfl) rfl (cells_new _ _ _) (fun u hu => cells_one [⟨0, put, ⟨#[]⟩⟩] u (by simpa using hu)) (by omega) (by unfold maxLen; omega) (by omega) (Nat.le_trans HM.out.lt (by simp)) ?_
   intro g1 cap1 w1 ho hg hat hlt
   have HAP := mz (mk_app HM.out.drew ho hg (hat.imp id (fun h => h.trans (by simp))))
   have HB1 := mz HAP.out.1
   refine ⟨HAP.out.1, ?_⟩
   intro a' ha'
   (try simp only [Act.put, List.getElem_toArray, List.getElem_cons_succ, List.getElem_cons_zero, List.setIfInBounds_toArray, List.set_cons_zero, List.set_cons_succ] at ha')
   subst ha'
   intro hH3
   clear ho hg hat hlt hi hz0 hz1 hz2
   refine' yT 12 F ?_
   refine' yT 13 F ?_
   have fz := blk_frozen hH3 0
   have cz : w1.cell? ⟨g, 0, none⟩ = some v := (blk_cell hH3 0).trans rfl
   refine' yL 14 (w1 := w1.setCell ⟨g, 0, none⟩ (.slice (some ⟨g1, 0, none⟩) (out.length + 1) cap1)) ?_
   refine done_ (by kernel_rfl) ?_
   have HP := mz (mk_undrew HAP.out.2)
   clear hH hH2 hH3 F HAP HB1 fz cz
   generalize w1.setCell ⟨g, 0, none⟩ (.slice (some ⟨g1, 0, none⟩) (out.length + 1) cap1) = wa at HP ⊢
   obtain ⟨va, hM1, hS1⟩ := HP.out
   have HMa := mz hM1
   have HSa := mz hS1
   clear HP hM1 hS1
   clear c0 c1 c2 f0 f1 f2
   obtain ⟨c0, c1, c2, f0, f1, f2⟩ := HMa.out.cells
   go_wp2_with fail
   refine (end_none (by kernel_rfl) rfl ?_).1
   refine ⟨rfl, _, by rw [HE.out]; exact (HMa.out.set1 noB).set2 noB, ?_⟩
   exact (HSa.out).set_ HMa.out.ge 1 _ |>.set_ HMa.out.ge 2 _
  ·have hput : put.toList.isEmpty = false := by rw [size_empty]; simp [hp]
   have hdrop : drop.toList.isEmpty = false := by rw [size_empty]; simp [hd]
   have hp3 : ¬ (put.toList = []) := by rw [toList_nil]; exact hp
   have hd3 : ¬ (drop.toList = []) := by rw [toList_nil]; exact hd
   have HE : Aside0 (madeL ⟨out, put, drop⟩ = out ++ [⟨0, put, ⟨#[]⟩⟩] ++ [⟨0, ⟨#[]⟩, drop⟩]) := ⟨by simp [madeL, putPart, dropPart, hp, hd, noB]⟩
   clear hp hd
   obtain ⟨c0, c1, c2, f0, f1, f2⟩ := HM.out.cells
   go_enter Try.func127, Try.ntmps127
   go_wp2_with fail
   refine wp_region_last_drew (ds := [14]) (S := fun W' => W'.heap[g]? = some (.cells #[v, .string put, .string drop] 132 (0, 0))) (by kernel_rfl) (HM.out.blk) (fun hH => ?_)
   have F : ∀ W' : World, W'.heap[g]? = some (.cells #[v, .string put, .string drop] 132 (0, 0)) → W'.cell? ⟨g, 0, none⟩ = some v ∧ W'.cell? ⟨g, 1, none⟩ = some (.string put) ∧ W'.cell? ⟨g, 2, none⟩ = some (.string drop) := fun W' hb => cells3 hb
   refine' yT 0 F ?_
   refine' yT 1 F ?_
   refine' yT 2 F ?_
   refine' yT 3 F ?_
   refine' yT 4 F ?_
   refine' yT 5 F ?_
   refine' yT 6 F ?_
   refine' yT 7 F ?_
   refine' yT 8 F ?_
   refine' yT 9 F ?_
   refine' yV 10 (v := .slice (some ⟨w.heap.size, 0, none⟩) 1 1) (w1 := w.drew.alloc (.cells (cellsP ⟨0, put, ⟨#[]⟩⟩).toArray 86)) (blk_alloc hH _) (fun hH2 => ?_)
   obtain ⟨i0, hi, hz0, hz1, hz2⟩ := info_parts info86
   refine yA 11 (.tmp 11) (.tmp 17) 34 base 86 i0 (.agg #[.int .i64 0, .string ⟨#[]⟩, .string ⟨#[]⟩]) 3 40 Try.underlying34 hi hz0 hz1 hz2 rfl (by decide) v out.length (out.flatMap cellsP) (by rfl) (own_alloc (own_drew HM.out.row) _) ⟨w.heap.size, 0, none⟩ 1 1 (cellsP ⟨0, put, ⟨#[]⟩⟩) (by rfl) rfl (cells_new _ _ _) (fun u hu => cells_one [⟨0, put, ⟨#[]⟩⟩] u (by simpa using hu)) (by omega) (by unfold maxLen; omega) (by omega) (Nat.le_trans HM.out.lt (by simp)) ?_
   intro g1 cap1 w1 ho hg hat hlt
   have HAP := mz (mk_app HM.out.drew ho hg (hat.imp id (fun h => h.trans (by simp))))
   have HB1 := mz HAP.out.1
   refine ⟨HAP.out.1, ?_⟩
   intro a' ha'
   (try simp only [Act.put, List.getElem_toArray, List.getElem_cons_succ, List.getElem_cons_zero, List.setIfInBounds_toArray, List.set_cons_zero, List.set_cons_succ] at ha')
   subst ha'
   intro hH3
   clear ho hg hat hlt hi hz0 hz1 hz2
   refine' yT 12 F ?_
   refine' yT 13 F ?_
   have fz := blk_frozen hH3 0
   have cz : w1.cell? ⟨g, 0, none⟩ = some v := (blk_cell hH3 0).trans rfl
   refine' yL 14 (w1 := w1.setCell ⟨g, 0, none⟩ (.slice (some ⟨g1, 0, none⟩) (out.length + 1) cap1)) ?_
   refine done_ (by kernel_rfl) ?_
   have HP := mz (mk_undrew HAP.out.2)
   clear hH hH2 hH3 F HAP HB1 fz cz
   generalize w1.setCell ⟨g, 0, none⟩ (.slice (some ⟨g1, 0, none⟩) (out.length + 1) cap1) = wa at HP ⊢
   obtain ⟨va, hM1, hS1⟩ := HP.out
   have HMa := mz hM1
   have HSa := mz hS1
   clear HP hM1 hS1
   clear c0 c1 c2 f0 f1 f2
   obtain ⟨c0, c1, c2, f0, f1, f2⟩ := HMa.out.cells
   go_wp2_with fail
   have hl2 : (out ++ [(⟨0, put, ⟨#[]⟩⟩ : Part)]).length ≤ 1000001 := by simp; omega
   refine wp_region_last_drew (ds := [14]) (S := fun W' => W'.heap[g]? = some (.cells #[va, .string put, .string drop] 132 (0, 0))) (by kernel_rfl) (HMa.out.blk) (fun hH => ?_)
   have F : ∀ W' : World, W'.heap[g]? = some (.cells #[va, .string put, .string drop] 132 (0, 0)) → W'.cell? ⟨g, 0, none⟩ = some va ∧ W'.cell? ⟨g, 1, none⟩ = some (.string put) ∧ W'.cell? ⟨g, 2, none⟩ = some (.string drop) := fun W' hb => cells3 hb
   refine' yT 0 F ?_
   refine' yT 1 F ?_
   refine' yT 2 F ?_
   refine' yT 3 F ?_
   refine' yT 4 F ?_
   refine' yT 5 F ?_
   refine' yT 6 F ?_
   refine' yT 7 F ?_
   refine' yT 8 F ?_
   refine' yT 9 F ?_
   refine' yV 10 (v := .slice (some ⟨wa.heap.size, 0, none⟩) 1 1) (w1 := wa.drew.alloc (.cells (cellsP ⟨0, ⟨#[]⟩, drop⟩).toArray 86)) (blk_alloc hH _) (fun hH2 => ?_)
   obtain ⟨i0, hi, hz0, hz1, hz2⟩ := info_parts info86
   refine yA 11 (.tmp 30) (.tmp 36) 34 base 86 i0 (.agg #[.int .i64 0, .string ⟨#[]⟩, .string ⟨#[]⟩]) 3 40 Try.underlying34 hi hz0 hz1 hz2 rfl (by decide) va (out ++ [(⟨0, put, ⟨#[]⟩⟩ : Part)]).length ((out ++ [(⟨0, put, ⟨#[]⟩⟩ : Part)]).flatMap cellsP) (by rfl) (own_alloc (own_drew HMa.out.row) _) ⟨wa.heap.size, 0, none⟩ 1 1 (cellsP ⟨0, ⟨#[]⟩, drop⟩) (by rfl) rfl (cells_new _ _ _) (fun u hu => cells_one [⟨0, ⟨#[]⟩, drop⟩] u (by simpa using hu)) (by omega) (by unfold maxLen; omega) (by omega) (Nat.le_trans HMa.out.lt (by simp)) ?_
   intro g1 cap1 w1 ho hg hat hlt
   have HAP := mz (mk_app HMa.out.drew ho hg (hat.imp id (fun h => h.trans (by simp))))
   have HB1 := mz HAP.out.1
   refine ⟨HAP.out.1, ?_⟩
   intro a' ha'
   (try simp only [Act.put, List.getElem_toArray, List.getElem_cons_succ, List.getElem_cons_zero, List.setIfInBounds_toArray, List.set_cons_zero, List.set_cons_succ] at ha')
   subst ha'
   intro hH3
   clear ho hg hat hlt hi hz0 hz1 hz2
   refine' yT 12 F ?_
   refine' yT 13 F ?_
   have fz := blk_frozen hH3 0
   have cz : w1.cell? ⟨g, 0, none⟩ = some va := (blk_cell hH3 0).trans rfl
   refine' yL 14 (w1 := w1.setCell ⟨g, 0, none⟩ (.slice (some ⟨g1, 0, none⟩) ((out ++ [(⟨0, put, ⟨#[]⟩⟩ : Part)]).length + 1) cap1)) ?_
   refine done_ (by kernel_rfl) ?_
   have HP := mz (mk_undrew HAP.out.2)
   clear hH hH2 hH3 F HAP HB1 fz cz
   generalize w1.setCell ⟨g, 0, none⟩ (.slice (some ⟨g1, 0, none⟩) ((out ++ [(⟨0, put, ⟨#[]⟩⟩ : Part)]).length + 1) cap1) = wb at HP ⊢
   obtain ⟨vb, hM1, hS1⟩ := HP.out
   have HMb := mz hM1
   have HSb := mz hS1
   clear HP hM1 hS1
   clear c0 c1 c2 f0 f1 f2
   obtain ⟨c0, c1, c2, f0, f1, f2⟩ := HMb.out.cells
   go_wp2_with fail
   refine (end_none (by kernel_rfl) rfl ?_).1
   refine ⟨rfl, _, by rw [HE.out]; exact (HMb.out.set1 noB).set2 noB, ?_⟩
   exact ((HSa.out.trans HSb.out)).set_ HMb.out.ge 1 _ |>.set_ HMb.out.ge 2 _

theorem mk_end (base g : Nat) (v : Value) (m : Mk) (w : World) (h : IsMk base w g v m) (hl : m.out.length ≤ 1000000) :
  Calls Try.prog 127 #[.pointer (some ⟨g, 0, none⟩)] w fun e w' => e = .returned (.tuple #[]) ∧ MkPost base g v w ⟨madeL m, noB, noB⟩ w' := mk_end_walk base g v m.out m.put m.drop w h hl
theorem made_out (m : Mk) : m.out.length ≤ (madeL m).length := by rw [madeL_length]; omega

set_option maxHeartbeats 4000000 in
set_option maxRecDepth 100000 in
theorem mk_keep (base g : Nat) (v : Value) (m : Mk) (w : World) (h : IsMk base w g v m) (n : Int) (hn : 0 ≤ n) (hl : (madeL m).length ≤ 900000) (hq : ∀ q, (madeL m).getLast? = some q → 0 ≤ q.f0 ∧ q.f0 + n ≤ 1000000000) :
  Calls Try.prog 117 #[.pointer (some ⟨g, 0, none⟩), .int .i64 n] w fun e w' => e = .returned (.tuple #[]) ∧ MkPost base g v w (keepM n m) w' := by
 have HM := mz h
 have HL : Aside0 (m.out.length ≤ 1000000) := ⟨Nat.le_trans (made_out m) (by omega)⟩
 have HL2 := mz hl
 have HQ := mz hq
 clear h hl hq
 by_cases hz : n = 0
 ·subst hz
  have HE : Aside0 (keepM 0 m = m) := ⟨by simp [keepM]⟩
  clear hn
  go_enter Try.func117, Try.ntmps117
  go_wp2_with fail
  refine (end_none (by kernel_rfl) rfl ?_).2
  refine ⟨rfl, v, ?_, MStep.refl base g v w⟩
  rw [HE.out]; exact HM.out
 ·have HE : Aside0 (keepM n m = ⟨keepL (madeL m) n, noB, noB⟩) := ⟨by simp [keepM, hz]⟩
  rcases List.eq_nil_or_concat (madeL m) with hL | ⟨o, q, hL⟩
  ·have HK : Aside0 (keepM n m = ⟨[] ++ [⟨n, noB, noB⟩], noB, noB⟩) := ⟨by rw [HE.out, hL]; rfl⟩
   have HLL := mz hL
   have HN9 : Aside0 (([] : List Part).length ≤ 900000) := ⟨by simp⟩
   clear hL HQ
   obtain ⟨i0, hi, hz0, hz1, hz2⟩ := info_parts info86
   have HI := mz hi
   have HZ0 := mz hz0
   have HZ1 := mz hz1
   have HZ2 := mz hz2
   clear hi hz0 hz1 hz2
   go_enter Try.func117, Try.ntmps117
   go_wp2_with fail
   refine (mk_end base g v m w HM.out HL.out).mono ?_
   rintro e wa ⟨rfl, va, hM1, hS1⟩
   rw [HLL.out] at hM1
   have HMa := mz hM1
   have HSa := mz hS1
   clear hM1 hS1
   obtain ⟨A0, cap0, rfl⟩ := own_slice HMa.out.row
   obtain ⟨c0, c1, c2, f0, f1, f2⟩ := HMa.out.cells
   go_wp2_with (at_builtin; refine wpList_append_lies _ rfl (.tmp 44) (.tmp 47) 34 rfl base 86 i0 (.agg #[.int .i64 0, .string ⟨#[]⟩, .string ⟨#[]⟩]) 3 40 Try.underlying34 HI.out HZ0.out HZ1.out HZ2.out rfl (by decide) (.slice A0 ([] : List Part).length cap0) ([] : List Part).length (([] : List Part).flatMap cellsP) (by rfl) (own_alloc HMa.out.row _) ⟨wa.heap.size, 0, none⟩ 1 1 (cellsP ⟨n, noB, noB⟩) (by rfl) rfl (cells_new _ _ _) (fun u hu => cells_one [⟨n, noB, noB⟩] u (by simpa using hu)) (by omega) (by unfold maxLen; have := HN9.out; omega) (by have := HN9.out; omega) (Nat.le_trans HMa.out.lt (by simp)) _ rfl ?_; intro g1 cap1 w1 ho hg hat hlt; have HAP := mz (mk_app HMa.out ho hg (hat.imp id (fun h => h.trans (by simp)))); clear ho hg hat hlt; have k0 := (blk_cell HAP.out.1 0).trans rfl; have z0 := blk_frozen HAP.out.1 0)
   refine (end_none (by kernel_rfl) rfl ?_).1
   rw [HK.out]
   obtain ⟨v2, h1, h2⟩ := HAP.out.2
   exact ⟨rfl, v2, h1, HSa.out.trans h2⟩
  ·rw [List.concat_eq_append] at hL
   obtain ⟨q0, q1⟩ := HQ.out q (by rw [hL]; simp)
   have HN9 : Aside0 ((o ++ [q]).length ≤ 900000) := ⟨by rw [← hL]; exact HL2.out⟩
   have HLL := mz hL
   by_cases hk : 0 < q.f0
   ·have HK : Aside0 (keepM n m = ⟨o ++ [⟨q.f0 + n, q.f1, q.f2⟩], noB, noB⟩) := ⟨by rw [HE.out, hL, keepL_snoc, if_pos hk]⟩
    clear hL HQ
    go_enter Try.func117, Try.ntmps117
    go_wp2_with fail
    refine (mk_end base g v m w HM.out HL.out).mono ?_
    rintro e wa ⟨rfl, va, hM1, hS1⟩
    rw [HLL.out] at hM1
    have HMa := mz hM1
    have HSa := mz hS1
    clear hM1 hS1
    obtain ⟨gr, cap, rfl, cq, fq, hst⟩ := mk_last HMa.out
    have HST := mz hst
    have ho9 : o.length ≤ 900000 := by have := HN9.out; simp at this; omega
    clear hst
    obtain ⟨c0, c1, c2, f0, f1, f2⟩ := HMa.out.cells
    go_wp2_with fail
    refine (end_none (by kernel_rfl) rfl ?_).2
    rw [HK.out]
    exact ⟨rfl, _, (HST.out _).1, HSa.out.trans (HST.out _).2⟩
   ·have HK : Aside0 (keepM n m = ⟨(o ++ [q]) ++ [⟨n, noB, noB⟩], noB, noB⟩) := ⟨by rw [HE.out, hL, keepL_snoc, if_neg hk]⟩
    clear hL HQ
    obtain ⟨i0, hi, hz0, hz1, hz2⟩ := info_parts info86
    have HI := mz hi
    have HZ0 := mz hz0
    have HZ1 := mz hz1
    have HZ2 := mz hz2
    clear hi hz0 hz1 hz2
    go_enter Try.func117, Try.ntmps117
    go_wp2_with fail
    refine (mk_end base g v m w HM.out HL.out).mono ?_
    rintro e wa ⟨rfl, va, hM1, hS1⟩
    rw [HLL.out] at hM1
    have HMa := mz hM1
    have HSa := mz hS1
    clear hM1 hS1
    obtain ⟨gr, cap, rfl, cq, fq, hst⟩ := mk_last HMa.out
    have ho9 : o.length ≤ 900000 := by have := HN9.out; simp at this; omega
    clear hst
    obtain ⟨c0, c1, c2, f0, f1, f2⟩ := HMa.out.cells
    go_wp2_with (at_builtin; refine wpList_append_lies _ rfl (.tmp 44) (.tmp 47) 34 rfl base 86 i0 (.agg #[.int .i64 0, .string ⟨#[]⟩, .string ⟨#[]⟩]) 3 40 Try.underlying34 HI.out HZ0.out HZ1.out HZ2.out rfl (by decide) (.slice (some ⟨gr, 0, none⟩) (o.length + 1) cap) (o ++ [q]).length ((o ++ [q]).flatMap cellsP) (by rfl) (own_alloc HMa.out.row _) ⟨wa.heap.size, 0, none⟩ 1 1 (cellsP ⟨n, noB, noB⟩) (by rfl) rfl (cells_new _ _ _) (fun u hu => cells_one [⟨n, noB, noB⟩] u (by simpa using hu)) (by omega) (by unfold maxLen; have := HN9.out; omega) (by have := HN9.out; omega) (Nat.le_trans HMa.out.lt (by simp)) _ rfl ?_; intro g1 cap1 w1 ho hg hat hlt; have HAP := mz (mk_app HMa.out ho hg (hat.imp id (fun h => h.trans (by simp)))); clear ho hg hat hlt; have k0 := (blk_cell HAP.out.1 0).trans rfl; have z0 := blk_frozen HAP.out.1 0)
    refine (end_none (by kernel_rfl) rfl ?_).1
    rw [HK.out]
    obtain ⟨v2, h1, h2⟩ := HAP.out.2
    simp only [List.length_append, List.length_cons, List.length_nil, Nat.zero_add] at h1 h2
    exact ⟨rfl, v2, h1, HSa.out.trans h2⟩

theorem keepM_sizes (n : Int) (m : Mk) : (keepM n m).put.size ≤ m.put.size ∧ (keepM n m).drop.size ≤ m.drop.size := by
 unfold keepM
 by_cases z : n = 0
 ·rw [if_pos z]; exact ⟨Nat.le_refl _, Nat.le_refl _⟩
 ·rw [if_neg z]; exact ⟨Nat.zero_le _, Nat.zero_le _⟩
set_option maxHeartbeats 4000000 in
set_option maxRecDepth 100000 in
theorem mk_take (base g : Nat) (v : Value) (m : Mk) (w : World) (h : IsMk base w g v m) (p : Part) (hn : 0 ≤ p.f0) (hl : (madeL m).length ≤ 900000) (hq : ∀ q, (madeL m).getLast? = some q → 0 ≤ q.f0 ∧ q.f0 + p.f0 ≤ 1000000000) (h1 : m.put.size + p.f1.size ≤ 1000000000) (h2 : m.drop.size + p.f2.size ≤ 1000000000) :
  Calls Try.prog 106 #[.pointer (some ⟨g, 0, none⟩), .agg #[.int .i64 p.f0, .string p.f1, .string p.f2]] w fun e w' => e = .returned (.tuple #[]) ∧ MkPost base g v w (takeM m p) w' := by
 have HM := mz h
 have HN := mz hn
 have HL := mz hl
 have HQ := mz hq
 obtain ⟨k1, k2⟩ := keepM_sizes p.f0 m
 have HE : Aside0 (takeM m p = ⟨(keepM p.f0 m).out, (keepM p.f0 m).put ++ p.f1, (keepM p.f0 m).drop ++ p.f2⟩) := ⟨rfl⟩
 have h1' : ¬ 9223372036854775807 < (keepM p.f0 m).put.size + p.f1.size := by omega
 have h2' : ¬ 9223372036854775807 < (keepM p.f0 m).drop.size + p.f2.size := by omega
 clear h hn hl hq h1 h2 k1 k2
 go_enter Try.func106, Try.ntmps106
 go_wp2_with ((with_reducible refine gate_dst (N := 3) rfl ?_); refine bx 3 #[.int .i64 p.f0, .string p.f1, .string p.f2] 86 ?_; intro gp hg w1 hbox hb1; have HB1 := mz hb1; have BP := mz hbox; have HG := mz hg; obtain ⟨x0, x1, x2⟩ := cells3 hbox; clear hg hbox hb1)
 refine (mk_keep base g v m w1 (HM.out.below HB1.out) p.f0 HN.out HL.out HQ.out).mono ?_
 rintro e w2 ⟨rfl, va, hM1, hS1⟩
 have HSa : Aside0 (MStep base g v va w w2) := ⟨(((MStep.refl base g v w).below' HB1.out HM.out.lt).trans hS1)⟩
 have hne : gp ≠ g := fun e => by have := blk_lt HM.out.blk; have := HG.out; omega
 have BP2 := mz ((hS1.kept.2 gp (blk_lt BP.out) (fun h => h.elim hne (fun h => by have := own_lt HM.out.row gp h.symm; have := HG.out; omega))).trans BP.out)
 have HMa := mz hM1
 clear hM1 hS1 BP x0 x1 x2
 have BP := BP2
 clear BP2
 go_wp2_with fail
 skip
 refine wp_region_last_drew (ds := [9]) (S := fun W' => W'.heap[g]? = some (.cells #[va, .string (keepM p.f0 m).put, .string (keepM p.f0 m).drop] 132 (0, 0)) ∧ W'.heap[gp]? = some (.cells #[.int .i64 p.f0, .string p.f1, .string p.f2] 86 (0, 0))) (by kernel_rfl) ⟨HMa.out.blk, BP.out⟩ (fun hH => ?_)
 have F : ∀ W' : World, (W'.heap[g]? = some (.cells #[va, .string (keepM p.f0 m).put, .string (keepM p.f0 m).drop] 132 (0, 0)) ∧ W'.heap[gp]? = some (.cells #[.int .i64 p.f0, .string p.f1, .string p.f2] 86 (0, 0))) → (W'.cell? ⟨g, 0, none⟩ = some va ∧ W'.cell? ⟨g, 1, none⟩ = some (.string (keepM p.f0 m).put) ∧ W'.cell? ⟨g, 2, none⟩ = some (.string (keepM p.f0 m).drop)) ∧ (W'.cell? ⟨gp, 0, none⟩ = some (.int .i64 p.f0) ∧ W'.cell? ⟨gp, 1, none⟩ = some (.string p.f1) ∧ W'.cell? ⟨gp, 2, none⟩ = some (.string p.f2)) := fun W' hb => ⟨cells3 hb.1, cells3 hb.2⟩
 refine' yT 0 F ?_
 refine' yT 1 F ?_
 refine' yT 2 F ?_
 refine' yT 3 F ?_
 refine' yT 4 F ?_
 refine' yT 5 F ?_
 refine' yT 6 F ?_
 refine' yT 7 F ?_
 refine' yT 8 F ?_
 have fz := blk_frozen hH.1 1
 have cz : w2.drew.cell? ⟨g, 1, none⟩ = some (.string (keepM p.f0 m).put) := (blk_cell hH.1 1).trans rfl
 refine' yL 9 (w1 := w2.drew.setCell ⟨g, 1, none⟩ (.string ((keepM p.f0 m).put ++ p.f1))) ?_
 refine done_ (by kernel_rfl) ?_
 have HMb := mz (HMa.out.drew.set1 ((keepM p.f0 m).put ++ p.f1))
 have BP' := mz (blk_far (p := ⟨g, 1, none⟩) (blk_drew BP.out) hne (.string ((keepM p.f0 m).put ++ p.f1)))
 have HSw3 := mz ((HSa.out.trans (MStep.drew base g va w2)).set_ HM.out.ge 1 (.string ((keepM p.f0 m).put ++ p.f1)))
 clear hH F fz cz BP
 generalize w2.drew.setCell ⟨g, 1, none⟩ (.string ((keepM p.f0 m).put ++ p.f1)) = w3 at HMb BP' HSw3 ⊢
 have BP := BP'
 clear BP' HSa HMa
 have HSa := HSw3
 clear HSw3
 go_wp2_with fail
 refine wp_region_last_drew (ds := [9]) (S := fun W' => W'.heap[g]? = some (.cells #[va, .string ((keepM p.f0 m).put ++ p.f1), .string (keepM p.f0 m).drop] 132 (0, 0)) ∧ W'.heap[gp]? = some (.cells #[.int .i64 p.f0, .string p.f1, .string p.f2] 86 (0, 0))) (by kernel_rfl) ⟨HMb.out.blk, BP.out⟩ (fun hH => ?_)
 have F : ∀ W' : World, (W'.heap[g]? = some (.cells #[va, .string ((keepM p.f0 m).put ++ p.f1), .string (keepM p.f0 m).drop] 132 (0, 0)) ∧ W'.heap[gp]? = some (.cells #[.int .i64 p.f0, .string p.f1, .string p.f2] 86 (0, 0))) → (W'.cell? ⟨g, 0, none⟩ = some va ∧ W'.cell? ⟨g, 1, none⟩ = some (.string ((keepM p.f0 m).put ++ p.f1)) ∧ W'.cell? ⟨g, 2, none⟩ = some (.string (keepM p.f0 m).drop)) ∧ (W'.cell? ⟨gp, 0, none⟩ = some (.int .i64 p.f0) ∧ W'.cell? ⟨gp, 1, none⟩ = some (.string p.f1) ∧ W'.cell? ⟨gp, 2, none⟩ = some (.string p.f2)) := fun W' hb => ⟨cells3 hb.1, cells3 hb.2⟩
 refine' yT 0 F ?_
 refine' yT 1 F ?_
 refine' yT 2 F ?_
 refine' yT 3 F ?_
 refine' yT 4 F ?_
 refine' yT 5 F ?_
 refine' yT 6 F ?_
 refine' yT 7 F ?_
 refine' yT 8 F ?_
 have fz := blk_frozen hH.1 2
 have cz : w3.drew.cell? ⟨g, 2, none⟩ = some (.string (keepM p.f0 m).drop) := (blk_cell hH.1 2).trans rfl
 refine' yL 9 (w1 := w3.drew.setCell ⟨g, 2, none⟩ (.string ((keepM p.f0 m).drop ++ p.f2))) ?_
 refine done_ (by kernel_rfl) ?_
 have HMc := mz (HMb.out.drew.set2 ((keepM p.f0 m).drop ++ p.f2))
 have BP' := mz (blk_far (p := ⟨g, 2, none⟩) (blk_drew BP.out) hne (.string ((keepM p.f0 m).drop ++ p.f2)))
 have HSw4 := mz ((HSa.out.trans (MStep.drew base g va w3)).set_ HM.out.ge 2 (.string ((keepM p.f0 m).drop ++ p.f2)))
 clear hH F fz cz BP
 generalize w3.drew.setCell ⟨g, 2, none⟩ (.string ((keepM p.f0 m).drop ++ p.f2)) = w4 at HMc BP' HSw4 ⊢
 refine (end_none (by kernel_rfl) rfl ?_).1
 exact ⟨rfl, va, HMc.out, HSw4.out⟩

set_option maxHeartbeats 4000000 in
theorem mk_made (base g : Nat) (v : Value) (m : Mk) (w : World) (h : IsMk base w g v m) (hl : m.out.length ≤ 1000000) :
  Calls Try.prog 107 #[.pointer (some ⟨g, 0, none⟩)] w fun e w' => ∃ v', e = .returned v' ∧ IsMk base w' g v' ⟨madeL m, noB, noB⟩ ∧ MStep base g v v' w w' := by
 have HM := mz h
 have HL := mz hl
 clear h hl
 go_enter Try.func107, Try.ntmps107
 go_wp2_with fail
 refine (mk_end base g v m w HM.out HL.out).mono ?_
 rintro e wa ⟨rfl, va, hM1, hS1⟩
 have HMa := mz hM1
 have HSa := mz hS1
 clear hM1 hS1
 obtain ⟨c0, c1, c2, f0, f1, f2⟩ := HMa.out.cells
 go_wp2_with fail
 go_ret
 exact ⟨va, rfl, HMa.out, HSa.out⟩
theorem cell_step {w w1 : World} {p : Addr} {v : Value} (h : w.cell? p = some v) (hb : Below w.heap.size w w1) : w1.cell? p = some v := (hb.cell (World.block_lt_of_cell? w _ h)).trans h
def smallQ (C : Nat) (p : Part) : Prop := 0 ≤ p.f0 ∧ p.f0 ≤ C ∧ p.f1.size ≤ C ∧ p.f2.size ≤ C
theorem smallQ.mono {C C' : Nat} {p : Part} (h : smallQ C p) (hc : C ≤ C') : smallQ C' p := ⟨h.1, by have := h.2.1; omega, by have := h.2.2.1; omega, by have := h.2.2.2; omega⟩
structure BndM (m : Mk) (B : Nat) : Prop where
 len : (madeL m).length ≤ B
 put : m.put.size ≤ B
 drop : m.drop.size ≤ B
 keep : ∀ q ∈ m.out, smallQ B q
theorem BndM.zero : BndM mk0 0 := ⟨by rw [show madeL mk0 = [] from rfl]; exact Nat.le_refl _, Nat.le_refl _, Nat.le_refl _, fun q h => by simp [mk0] at h⟩
theorem BndM.mem {m : Mk} {B : Nat} (h : BndM m B) : ∀ q ∈ madeL m, smallQ B q := by
 intro q hq
 have h1 := h.put
 have h2 := h.drop
 unfold madeL putPart dropPart at hq
 rcases List.mem_append.1 hq with hq | hq
 ·exact h.keep q hq
 ·rcases List.mem_append.1 hq with hq | hq
  ·split at hq
   ·simp at hq
   ·simp at hq; rw [hq]; exact ⟨Int.le_refl _, by simp only; omega, h1, Nat.zero_le _⟩
  ·split at hq
   ·simp at hq
   ·simp at hq; rw [hq]; exact ⟨Int.le_refl _, by simp only; omega, Nat.zero_le _, h2⟩
theorem keepL_mem (o : List Part) (n : Int) (B C : Nat) (hn : 0 ≤ n) (hC : n ≤ C) (h : ∀ q ∈ o, smallQ B q) : ∀ q ∈ keepL o n, smallQ (B + C) q := by
 intro q hq
 have hz : noB.size = 0 := rfl
 rcases List.eq_nil_or_concat o with rfl | ⟨o, x, rfl⟩
 ·rw [keepL_nil] at hq; simp at hq; subst hq; exact ⟨hn, by simp only; omega, by simp only [hz]; omega, by simp only [hz]; omega⟩
 ·rw [List.concat_eq_append] at h hq
  rw [keepL_snoc] at hq
  by_cases z : x.f0 > 0
  ·rw [if_pos z] at hq
   rcases List.mem_append.1 hq with hq | hq
   ·exact (h q (List.mem_append_left _ hq)).mono (by omega)
   ·have := h x (by simp); simp at hq; subst hq; exact ⟨by have := this.1; simp only; omega, by have := this.2.1; simp only; omega, by have := this.2.2.1; simp only; omega, by have := this.2.2.2; simp only; omega⟩
  ·rw [if_neg z] at hq
   rcases List.mem_append.1 hq with hq | hq
   ·exact (h q hq).mono (by omega)
   ·simp at hq; subst hq; exact ⟨hn, by simp only; omega, by simp only [hz]; omega, by simp only [hz]; omega⟩
theorem BndM.keepM {m : Mk} {B C : Nat} (h : BndM m B) (n : Int) (hn : 0 ≤ n) (hC : n ≤ C) (h3 : 1 ≤ C) : BndM (keepM n m) (B + C) := by
 unfold X.keepM
 by_cases z : n = 0
 ·rw [if_pos z]; exact ⟨by have := h.len; omega, by have := h.put; omega, by have := h.drop; omega, fun q hq => (h.keep q hq).mono (by omega)⟩
 ·rw [if_neg z]
  refine ⟨?_, Nat.zero_le _, Nat.zero_le _, fun q hq => ?_⟩
  ·rw [madeL_kept]; have := keepL_length (madeL m) n; have := h.len; omega
  ·exact keepL_mem (madeL m) n B C hn hC h.mem q hq
theorem BndM.take {m : Mk} {B C : Nat} (h : BndM m B) (p : Part) (hp : smallQ C p) (h3 : 3 ≤ C) : BndM (takeM m p) (B + C) := by
 obtain ⟨p0, p1, p2, p3⟩ := hp
 have a1 := putPart_length ((X.keepM p.f0 m).put ++ p.f1)
 have a2 := dropPart_length ((X.keepM p.f0 m).drop ++ p.f2)
 obtain ⟨k1, k2⟩ := keepM_sizes p.f0 m
 refine ⟨?_, ?_, ?_, ?_⟩
 ·rw [madeL_length]
  unfold takeM
  simp only
  have e : (X.keepM p.f0 m).out.length ≤ (madeL m).length + 1 := by
   unfold X.keepM
   by_cases z : p.f0 = 0
   ·rw [if_pos z]; have := made_out m; omega
   ·rw [if_neg z]; exact keepL_length _ _
  have := h.len
  omega
 ·show ((X.keepM p.f0 m).put ++ p.f1).size ≤ _
  rw [ba_size_app]; have := h.put; omega
 ·show ((X.keepM p.f0 m).drop ++ p.f2).size ≤ _
  rw [ba_size_app]; have := h.drop; omega
 ·exact (h.keepM p.f0 p0 p1 (by omega)).keep
theorem made_sized {m : Mk} {B : Nat} (h : BndM m B) (hB : B ≤ 1000000) : sizedP (madeL m) = true := sizedP_mk (fun q hq => by have := h.mem q hq; unfold maxLen; have := this.2.2; omega)
theorem BndM.mono {m : Mk} {B B' : Nat} (h : BndM m B) (hb : B ≤ B') : BndM m B' := ⟨by have := h.len; omega, by have := h.put; omega, by have := h.drop; omega, fun q hq => (h.keep q hq).mono hb⟩
theorem BndM.fold {C : Nat} (h3 : 3 ≤ C) (l : List Part) : ∀ {m : Mk} {B : Nat}, BndM m B → (∀ p ∈ l, smallQ C p) → BndM (l.foldl takeM m) (B + l.length * C) := by
 induction l with
 | nil => intro m B h _; exact h.mono (by omega)
 | cons p l ih =>
  intro m B h hp
  have := ih (h.take p (hp p List.mem_cons_self) h3) (fun q hq => hp q (List.mem_cons_of_mem _ hq))
  exact this.mono (by rw [List.length_cons, Nat.add_mul]; omega)
theorem mk_take_b (base g : Nat) (v : Value) (m : Mk) (w : World) (h : IsMk base w g v m) (p : Part) (B : Nat) (hb : BndM m B) (hB : B ≤ 900000) (hp : smallQ 100000 p) :
  Calls Try.prog 106 #[.pointer (some ⟨g, 0, none⟩), .agg #[.int .i64 p.f0, .string p.f1, .string p.f2]] w fun e w' => e = .returned (.tuple #[]) ∧ MkPost base g v w (takeM m p) w' := by
 obtain ⟨p0, p1, p2, p3⟩ := hp
 refine mk_take base g v m w h p p0 (Nat.le_trans hb.len hB) (fun q hq => ?_) ?_ ?_
 ·have := hb.mem q (List.mem_of_getLast? hq); have h1 := this.1; have h2 := this.2.1; omega
 ·have := hb.put; omega
 ·have := hb.drop; omega
theorem mk_keep_b (base g : Nat) (v : Value) (m : Mk) (w : World) (h : IsMk base w g v m) (n : Int) (B : Nat) (hb : BndM m B) (hB : B ≤ 900000) (h0 : 0 ≤ n) (h1 : n ≤ 100000) :
  Calls Try.prog 117 #[.pointer (some ⟨g, 0, none⟩), .int .i64 n] w fun e w' => e = .returned (.tuple #[]) ∧ MkPost base g v w (keepM n m) w' := by
 refine mk_keep base g v m w h n h0 (Nat.le_trans hb.len hB) (fun q hq => ?_)
 have := hb.mem q (List.mem_of_getLast? hq); have h1 := this.1; have h2 := this.2.1; omega
theorem mk_made_b (base g : Nat) (v : Value) (m : Mk) (w : World) (h : IsMk base w g v m) (B : Nat) (hb : BndM m B) (hB : B ≤ 900000) :
  Calls Try.prog 107 #[.pointer (some ⟨g, 0, none⟩)] w fun e w' => ∃ v', e = .returned v' ∧ IsMk base w' g v' ⟨madeL m, noB, noB⟩ ∧ MStep base g v v' w w' :=
 mk_made base g v m w h (by have := hb.len; have := made_out m; omega)
theorem mk_new {w w1 : World} {g : Nat} (base : Nat) (hb : base ≤ w.heap.size) (hg : g = w.heap.size) (h : w1.heap[g]? = some (.cells #[.slice none 0 0, .string ⟨#[]⟩, .string ⟨#[]⟩] 132 (0, 0))) : IsMk base w1 g (.slice none 0 0) mk0 :=
 ⟨h, by omega, own_nil _ _ _ _⟩
def makeB (l : List Part) : Bool := decide (l.length ≤ 2000) && l.all fun p => decide (0 ≤ p.f0) && decide (p.f0 ≤ 400) && decide (p.f1.size ≤ 400) && decide (p.f2.size ≤ 400)
theorem makeB_of {l : List Part} (h : makeB l = true) : l.length ≤ 2000 ∧ ∀ p ∈ l, smallQ 400 p := by
 simp only [makeB, Bool.and_eq_true, decide_eq_true_eq, List.all_eq_true] at h
 exact ⟨h.1, fun p hp => by obtain ⟨⟨⟨a, b⟩, c⟩, d⟩ := h.2 p hp; exact ⟨a, by omega, c, d⟩⟩
def impl_normal.f (l0 : List Part) : Option (List Part) := if makeB l0 = true then some (normL l0) else none
set_option maxHeartbeats 8000000 in
set_option maxRecDepth 100000 in
theorem impl_normal.calls (A0 : Option Addr) (c0 : Nat) (l0 : List Part) (r : List Part) (w : World) (hr0 : Kd.C k86 w A0 l0.length l0) (hc0 : l0.length ≤ c0) (h : impl_normal.f l0 = some r) :
  Calls Try.prog 67 #[.slice A0 l0.length c0] w fun e w' => ∃ v0_ : Value, e = .returned (v0_) ∧ Kd.R k86 86 w' w.heap.size (fun _ => True) v0_ r ∧ Below w.heap.size w w' := by
 unfold impl_normal.f at h
 by_cases hm : makeB l0 = true
 case neg => rw [if_neg hm] at h; exact absurd h (by simp)
 rw [if_pos hm] at h
 obtain rfl := Option.some.inj h
 obtain ⟨hl, hp⟩ := makeB_of hm
 have HC := mz hr0
 have HP := mz hp
 clear hr0 hp hm h hc0
 go_enter Try.func67, Try.ntmps67
 go_wp2_with ((with_reducible refine gate_dst (N := 3) rfl ?_); refine bx 3 #[.slice none 0 0, .string ⟨#[]⟩, .string ⟨#[]⟩] 132 ?_; intro g hg w1 hbox hb1; have HB1 := mz hb1; have HM1 := mz (mk_new w.heap.size (Nat.le_refl _) hg hbox); clear hg hbox hb1)
 go_loopg [5, 8] l0.length (fun gg _ s8 wr => ∃ (kk : Nat) (v : Value), kk ≤ l0.length ∧ l0.length - kk ≤ gg ∧ s8 = .int .i64 kk ∧ Aside0 (IsMk w.heap.size wr g v (((l0.take kk)).foldl takeM mk0)) ∧ Aside0 (Below w.heap.size w wr))
 case atStart => exact ⟨0, .slice none 0 0, Nat.zero_le _, by omega, rfl, ⟨by simpa using HM1.out⟩, ⟨HB1.out⟩⟩
 case round =>
  obtain ⟨kk, v, hkk, hg, rfl, HM, HB⟩ := hrel
  have HBD : Aside0 (BndM (((l0.take kk)).foldl takeM mk0) 800000) := ⟨(BndM.fold (C := 400) (by omega) ((l0.take kk)) BndM.zero (by exact fun q hq => HP.out q (List.mem_of_mem_take hq))).mono (by skip; rw [List.length_take]; omega)⟩
  by_cases hlt : kk < l0.length
  ·have hltz : (kk : Int) < (l0.length : Int) := by omega
   have hsp := HP.out l0[kk] (List.getElem_mem hlt)
   obtain ⟨ad, eA, x0, x1, x2⟩ := at_T86 (Kd.C_below HC.out HB.out) (kk : Int) (by omega) hltz
   rw [rd_part l0 kk hlt, Int.toNat_natCast] at x0 x1 x2
   subst eA
   have hfold : ((l0.take (kk + 1))).foldl takeM mk0 = takeM (((l0.take kk)).foldl takeM mk0) l0[kk] := by rw [List.take_succ_eq_append_getElem hlt, List.foldl_append]; rfl
   have HF := mz hfold
   have HSP := mz hsp
   clear hfold hsp
   generalize l0[kk] = p at x0 x1 x2 HF HSP
   generalize hm0 : ((l0.take kk)).foldl takeM mk0 = m0 at HM HBD HF
   clear hm0
   go_upto_region 5 with ((with_reducible refine gate_dst (N := 5) rfl ?_); refine bx 5 #[.int .i64 0, .string ⟨#[]⟩, .string ⟨#[]⟩] 86 ?_; intro gp hg2 w2 hbox hb; have y0 := cell_step x0 hb; have y1 := cell_step x1 hb; have y2 := cell_step x2 hb; have BB := mz hb; have BX := mz hbox; obtain ⟨e0, e1, e2⟩ := cells3 hbox; obtain ⟨f0, f1, f2⟩ := froz3 hbox; have HG2 := mz hg2; clear hg2 hb hbox x0 x1 x2)
   obtain ⟨hbk, hbb⟩ := fill3 (v0 := .int .i64 p.f0) (v1 := .string p.f1) (v2 := .string p.f2) BB.out (Nat.le_of_eq HG2.out.symm) BX.out
   clear y0 y1 y2 e0 e1 e2 f0 f1 f2 BB BX
   generalize (((w2.setCell ⟨gp, 0, none⟩ (.int .i64 p.f0)).setCell ⟨gp, 1, none⟩ (.string p.f1)).setCell ⟨gp, 2, none⟩ (.string p.f2)) = w3 at hbk hbb ⊢
   have HB3 := mz hbb
   obtain ⟨e0, e1, e2⟩ := cells3 hbk
   clear hbk hbb
   go_wp2_with fail
   refine (mk_take_b w.heap.size g v m0 w3 (HM.out.below HB3.out) p 800000 HBD.out (by omega) (HSP.out.mono (by omega))).mono ?_
   rintro e w4 ⟨rfl, v4, hM4, hS4⟩
   have HM4 := mz hM4
   have HB4 := mz ((HB.out.trans (HB3.out.mono HB.out.size)).trans hS4.below)
   clear hM4 hS4 e0 e1 e2
   go_wp2_with fail
   go_roundg (l0.length - (kk + 1))
   case measure => omega
   case rel => exact ⟨kk + 1, v4, by omega, by omega, by (first | go_num | (congr 1; unfold wrap64; omega)), ⟨by rw [HF.out]; exact HM4.out⟩, ⟨HB4.out⟩⟩
  ·have hltz : ¬ (kk : Int) < (l0.length : Int) := by omega
   obtain rfl : kk = l0.length := by omega
   go_wp2_with fail
   refine (mk_made_b w.heap.size g v _ wr HM.out 800000 HBD.out (by omega)).mono ?_
   rintro e w4 ⟨v4, rfl, hM4, hS4⟩
   have HM4 := mz hM4
   have HB4 := mz (HB.out.trans hS4.below)
   clear hM4 hS4
   go_wp2_with fail
   go_ret
   have hr := R_of_flat HM4.out.row
   rw [List.take_length] at hr
   exact ⟨v4, rfl, hr, HB4.out⟩
structure IsRd (t : TypeId) (W : World) (g : Nat) (A : Option Addr) (c : Nat) (l : List Part) : Prop where
 blk : W.heap[g]? = some (.cells #[.slice A l.length c] t (0, 0))
 row : Kd.C k86 W A l.length l
 cap : l.length ≤ c
structure RStep (base g : Nat) (A A' : Option Addr) (w w' : World) : Prop where
 below : Below base w w'
 kept : Kept w w' (fun k => k = g)
 own : ∀ a', A' = some a' → (∃ a, A = some a ∧ a'.block = a.block) ∨ w.heap.size ≤ a'.block
theorem C_move {W W' : World} {A : Option Addr} {l : List Part} (h : Kd.C k86 W A l.length l) (hm : ∀ a, A = some a → W'.heap[a.block]? = W.heap[a.block]?) : Kd.C k86 W' A l.length l := by
 refine ⟨h.1, h.2.1, fun h0 => ?_⟩
 obtain ⟨ad, e, hc⟩ := h.2.2 h0
 refine ⟨ad, e, fun j p hj => ?_⟩
 obtain ⟨c, hl, hK, hcell⟩ := hc j p hj
 refine ⟨c, hl, ?_, fun i u hu => ?_⟩
 ·rw [k86_open hK]; exact k86.K_of_M (k86_mkM W' 0 (fun _ => True) p)
 ·have h1 := hcell i u hu
  have h2 := hm ad e
  rw [← h1]
  have e2 : (ad.add (j * k86.sz + i)).block = ad.block := by unfold Addr.add; split <;> rfl
  unfold World.cell?
  rw [e2, h2]
theorem C_addr {W : World} {A : Option Addr} {l : List Part} (h : Kd.C k86 W A l.length l) (hp : 0 < l.length) : ∃ a, A = some a ∧ a.block < W.heap.size := by
 obtain ⟨ad, e, hc⟩ := h.2.2 hp
 obtain ⟨c, hl, hK, hcell⟩ := hc 0 l[0] (List.getElem?_eq_getElem hp)
 have : c.length = 3 := hl
 have h1 := hcell 0 c[0] (List.getElem?_eq_getElem (by omega))
 have := World.block_lt_of_cell? W _ h1
 exact ⟨ad, e, this⟩
theorem IsRd.below {t : TypeId} {W W' : World} {g : Nat} {A : Option Addr} {c : Nat} {l : List Part} (h : IsRd t W g A c l) (hb : Below W.heap.size W W') : IsRd t W' g A c l := ⟨blk_below h.blk hb, Kd.C_below h.row hb, h.cap⟩
theorem IsRd.kept {t : TypeId} {W W' : World} {g : Nat} {A : Option Addr} {c : Nat} {l : List Part} (h : IsRd t W g A c l) {ok : Nat → Prop} (hk : Kept W W' ok) (hg : ¬ ok g) (hA : 0 < l.length → ∀ a, A = some a → ¬ ok a.block) : IsRd t W' g A c l := by
 refine ⟨(hk.2 g (blk_lt h.blk) hg).trans h.blk, ?_, h.cap⟩
 rcases Nat.eq_zero_or_pos l.length with z | z
 ·obtain rfl := List.eq_nil_of_length_eq_zero z
  exact ⟨rfl, by simp, fun h0 => absurd h0 (by simp)⟩
 ·obtain ⟨a, e, hlt⟩ := C_addr h.row z
  exact C_move h.row (fun a' e' => by rw [e] at e'; injection e' with e'; subst e'; exact hk.2 _ hlt (hA z a e))
theorem C_none (W : World) (A : Option Addr) : Kd.C k86 W A ([] : List Part).length [] := ⟨rfl, by simp, fun h0 => absurd h0 (by simp)⟩
theorem IsRd.set_ {t : TypeId} {W : World} {g : Nat} {A A' : Option Addr} {c c' : Nat} {l l' : List Part} (h : IsRd t W g A c l) (hr : Kd.C k86 W A' l'.length l') (hc : l'.length ≤ c') (hne : 0 < l'.length → ∀ a, A' = some a → a.block ≠ g) : IsRd t (W.setCell ⟨g, 0, none⟩ (.slice A' l'.length c')) g A' c' l' := by
 refine ⟨blk_put h.blk 0 _ rfl, ?_, hc⟩
 rcases Nat.eq_zero_or_pos l'.length with z | z
 ·obtain rfl := List.eq_nil_of_length_eq_zero z
  exact C_none _ _
 ·exact C_move hr (fun a e => Below.heap_setCell W _ _ _ (hne z a e))
theorem RStep.refl (base g : Nat) (A : Option Addr) (w : World) : RStep base g A A w w := ⟨Below.refl _ _, Kept.refl _ _, fun a h => .inl ⟨a, h, rfl⟩⟩
theorem RStep.trans {base g : Nat} {A B C : Option Addr} {u v w : World} (h : RStep base g A B u v) (k : RStep base g B C v w) : RStep base g A C u w := by
 refine ⟨h.1.trans k.1, h.2.then_ k.2 (fun i hi => .inl hi), fun a hC => ?_⟩
 rcases k.3 a hC with ⟨b, hB, e⟩ | hlt
 ·rcases h.3 b hB with ⟨x, hA, e'⟩ | hlt
  ·exact .inl ⟨x, hA, e.trans e'⟩
  ·exact .inr (by rw [e]; exact hlt)
 ·exact .inr (Nat.le_trans h.1.size hlt)
theorem RStep.of_below {base g : Nat} {A : Option Addr} {w w' : World} (hb : Below w.heap.size w w') (hs : base ≤ w.heap.size) : RStep base g A A w w' := ⟨hb.mono hs, Kept.of_below hb _, fun a h => .inl ⟨a, h, rfl⟩⟩
theorem C_typed {W : World} {A : Option Addr} {l : List Part} (h : Kd.C k86 W A l.length l) (hp : 0 < l.length) {g : Nat} {t : TypeId} {v : Value} (hb : W.heap[g]? = some (.cells #[v] t (0, 0))) : ∀ a, A = some a → a.block ≠ g := by
 intro a e eg
 obtain ⟨ad, e2, hc⟩ := h.2.2 hp
 rw [e] at e2; injection e2 with e2; subst e2
 obtain ⟨c, hl, hK, hcell⟩ := hc 0 l[0] (List.getElem?_eq_getElem hp)
 have hl3 : c.length = 3 := hl
 have h2 := hcell 1 c[1] (List.getElem?_eq_getElem (by omega))
 have e2 : (a.add (0 * k86.sz + 1)) = ⟨a.block, a.off + 1, none⟩ := by simp [Addr.add]
 rw [e2, eg, blk_cell hb] at h2
 simp at h2
def RdPost (t : TypeId) (base g : Nat) (A : Option Addr) (l : List Part) (w w' : World) : Prop := ∃ A' c', IsRd t w' g A' c' l ∧ RStep base g A A' w w'
def headL : List Part → Part
 | [] => ⟨0, ⟨#[]⟩, ⟨#[]⟩⟩
 | p :: _ => p
def partV (p : Part) : Value := .agg #[.int .i64 p.f0, .string p.f1, .string p.f2]
theorem rd_cell {t : TypeId} {W : World} {g : Nat} {A : Option Addr} {c : Nat} {l : List Part} (h : IsRd t W g A c l) : W.cell? ⟨g, 0, none⟩ = some (.slice A l.length c) := (blk_cell h.blk 0).trans rfl
theorem rd_first {W : World} {A : Option Addr} {p : Part} {l : List Part} (h : Kd.C k86 W A (p :: l).length (p :: l)) : ∃ ad, A = some ad ∧ W.cell? ad = some (.int .i64 p.f0) ∧ W.cell? ⟨ad.block, ad.off + 1, none⟩ = some (.string p.f1) ∧ W.cell? ⟨ad.block, ad.off + 2, none⟩ = some (.string p.f2) := by
 obtain ⟨ad, e, x0, x1, x2⟩ := at_T86 h 0 (by omega) (by simp)
 have hr : rd_T86 (p :: l) 0 = p := rd_part (p :: l) 0 (by simp)
 have e0 : ad.add ((0 : Int).toNat * 3) = ad := by simp [Addr.add]
 rw [hr, e0] at x0 x1 x2
 exact ⟨ad, e, x0, x1, x2⟩
set_option maxHeartbeats 4000000 in
theorem rd_head (g : Nat) (A : Option Addr) (c : Nat) (l : List Part) (w : World) (h : IsRd 138 w g A c l) :
  Calls Try.prog 110 #[.pointer (some ⟨g, 0, none⟩)] w fun e w' => e = .returned (partV (headL l)) ∧ Below w.heap.size w w' := by
 have c0 := rd_cell h
 have HR := mz h
 clear h
 cases l with
 | nil =>
  simp only [List.length_nil] at c0
  go_enter Try.func110, Try.ntmps110
  go_wp2_with (((with_reducible refine gate_dst (N := 2) rfl ?_); refine bx 2 #[.int .i64 0, .string ⟨#[]⟩, .string ⟨#[]⟩] 86 ?_; intro g2 hg w1 hbox hb; have HGg2 := mz hg; have Bw1 := mz hb; have Kg2 := mz hbox; obtain ⟨x0, x1, x2⟩ := cells3 hbox; obtain ⟨xf0, xf1, xf2⟩ := froz3 hbox; clear hg hb hbox); have c0' := cell_step c0 Bw1.out; clear c0)
  obtain ⟨hbk, hbb⟩ := fill3 (v0 := .int .i64 0) (v1 := .string ⟨#[]⟩) (v2 := .string ⟨#[]⟩) Bw1.out (Nat.le_of_eq HGg2.out.symm) Kg2.out
  refine bodyPost_ret (results_cell_row rfl _ _ g2 86 #[.int .i64 0, .string ⟨#[]⟩, .string ⟨#[]⟩] (0, 0) _ rfl hbk Try.underlying86 rfl (by kernel_rfl)) rfl ?_
  exact ⟨rfl, hbb⟩
 | cons p xs =>
  obtain ⟨ad, rfl, y0, y1, y2⟩ := rd_first HR.out.row
  simp only [List.length_cons] at c0
  go_enter Try.func110, Try.ntmps110
  go_wp2_with (((with_reducible refine gate_dst (N := 2) rfl ?_); refine bx 2 #[.int .i64 0, .string ⟨#[]⟩, .string ⟨#[]⟩] 86 ?_; intro g2 hg w1 hbox hb; have HGg2 := mz hg; have Bw1 := mz hb; have Kg2 := mz hbox; obtain ⟨x0, x1, x2⟩ := cells3 hbox; obtain ⟨xf0, xf1, xf2⟩ := froz3 hbox; clear hg hb hbox); have c0' := cell_step c0 Bw1.out; have z0 := cell_step y0 Bw1.out; have z1 := cell_step y1 Bw1.out; have z2 := cell_step y2 Bw1.out; clear c0 y0 y1 y2)
  obtain ⟨hbk, hbb⟩ := fill3 (v0 := .int .i64 p.f0) (v1 := .string p.f1) (v2 := .string p.f2) Bw1.out (Nat.le_of_eq HGg2.out.symm) Kg2.out
  refine bodyPost_ret (results_cell_row rfl _ _ g2 86 #[.int .i64 p.f0, .string p.f1, .string p.f2] (0, 0) _ rfl hbk Try.underlying86 rfl (by kernel_rfl)) rfl ?_
  exact ⟨rfl, hbb⟩
theorem rd_rest {t : TypeId} {W : World} {g : Nat} {A : Option Addr} {c : Nat} {p : Part} {xs : List Part} (h : IsRd t W g A c (p :: xs)) :
  Kd.C k86 W (if c = 1 then A else A.map (·.add 3)) xs.length xs ∧ xs.length ≤ c - 1 ∧ (∀ a', (if c = 1 then A else A.map (·.add 3)) = some a' → (∃ a, A = some a ∧ a'.block = a.block)) := by
 have h1 := Kd.C_drop (m := 1) h.row (by simp) h.cap
 have hc := h.cap
 simp only [List.length_cons] at hc
 refine ⟨h1, by omega, fun a' e => ?_⟩
 by_cases z : c = 1
 ·rw [if_pos z] at e; exact ⟨a', e, rfl⟩
 ·rw [if_neg z] at e
  obtain ⟨a, ha, e2⟩ := Option.map_eq_some_iff.1 e
  exact ⟨a, ha, (by rw [← e2]; unfold Addr.add; split <;> rfl)⟩
theorem rd_adv {t : TypeId} {W : World} {g : Nat} {A : Option Addr} {c : Nat} {p : Part} {xs : List Part} (h : IsRd t W g A c (p :: xs)) (base : Nat) (hg : base ≤ g) :
  ∃ A' c', A' = (if c = 1 then A else A.map (·.add 3)) ∧ c' = c - 1 ∧ IsRd t (W.setCell ⟨g, 0, none⟩ (.slice (if c = 1 then A else A.map (·.add 3)) xs.length (c - 1))) g A' c' xs ∧ RStep base g A A' W (W.setCell ⟨g, 0, none⟩ (.slice (if c = 1 then A else A.map (·.add 3)) xs.length (c - 1))) := by
 obtain ⟨h1, h2, h3⟩ := rd_rest h
 have hT := C_typed h.row (by simp) h.blk
 refine ⟨_, _, rfl, rfl, h.set_ h1 h2 (fun _ a e => ?_), ⟨(Below.refl base W).setCell hg _, Kept.setCell (S := fun k => k = g) (p := ⟨g, 0, none⟩) (Kept.refl W _) (.inl rfl) _, fun a e => .inl (h3 a e)⟩⟩
 obtain ⟨b, hb, e2⟩ := h3 a e
 rw [e2]; exact hT b hb
theorem show_add (c : Nat) (A : Option Addr) : (if c = 1 then A else Option.map (fun x : Addr => (⟨x.block, x.off + 3, none⟩ : Addr)) A) = if c = 1 then A else A.map (·.add 3) := by
 congr 1
theorem rd_tail {t : TypeId} {w w5 : World} {base g g2 : Nat} {A A' : Option Addr} {c' : Nat} {xs : List Part} {cs : Array Value} (h : IsRd t w5 g A' c' xs) (hS : RStep base g A A' w w5) (hs : base ≤ w.heap.size) (hg : g < w.heap.size) (hk : w5.heap[g2]? = some (.cells cs 86 (0, 0))) (hg2 : g2 = w.heap.size) (hA : ∀ a, A' = some a → a.block ≠ g2)
  (u0 u1 u2 : Value) : IsRd t (((w5.setCell ⟨g2, 0, none⟩ u0).setCell ⟨g2, 1, none⟩ u1).setCell ⟨g2, 2, none⟩ u2) g A' c' xs ∧ RStep base g A A' w (((w5.setCell ⟨g2, 0, none⟩ u0).setCell ⟨g2, 1, none⟩ u1).setCell ⟨g2, 2, none⟩ u2) := by
 have hne : g ≠ g2 := by omega
 have hle : w.heap.size ≤ g2 := by omega
 refine ⟨⟨blk_far (p := ⟨g2, 2, none⟩) (blk_far (p := ⟨g2, 1, none⟩) (blk_far (p := ⟨g2, 0, none⟩) h.blk hne _) hne _) hne _, C_move h.row (fun a e => ?_), h.cap⟩, ⟨?_, ?_, hS.own⟩⟩
 ·exact (Below.heap_setCell _ _ _ _ (hA a e)).trans ((Below.heap_setCell _ _ _ _ (hA a e)).trans (Below.heap_setCell _ _ _ _ (hA a e)))
 ·exact ((hS.below.setCell (Nat.le_trans hs hle) _).setCell (Nat.le_trans hs hle) _).setCell (Nat.le_trans hs hle) _
 ·exact ((hS.kept.setCell (p := ⟨g2, 0, none⟩) (.inr hle) _).setCell (p := ⟨g2, 1, none⟩) (.inr hle) _).setCell (p := ⟨g2, 2, none⟩) (.inr hle) _

set_option maxHeartbeats 4000000 in
set_option maxRecDepth 100000 in
theorem rd_next (base g : Nat) (A : Option Addr) (c : Nat) (p : Part) (xs : List Part) (w : World) (h : IsRd 138 w g A c (p :: xs)) (hg : base ≤ g) :
  Calls Try.prog 111 #[.pointer (some ⟨g, 0, none⟩)] w fun e w' => e = .returned (partV p) ∧ RdPost 138 base g A xs w w' := by
 have HR := mz h
 have HGB := mz hg
 have HS : Aside0 (base ≤ w.heap.size) := ⟨by have := blk_lt h.blk; omega⟩
 clear h hg
 go_enter Try.func111, Try.ntmps111
 go_wp2_with ((with_reducible refine gate_dst (N := 2) rfl ?_); refine bx 2 #[.int .i64 0, .string ⟨#[]⟩, .string ⟨#[]⟩] 86 ?_; intro g2 hg w1 hbox hb; have HGg2 := mz hg; have Bw1 := mz hb; have Kg2 := mz hbox; obtain ⟨x0, x1, x2⟩ := cells3 hbox; obtain ⟨xf0, xf1, xf2⟩ := froz3 hbox; clear hg hb hbox)
 refine (rd_head g A c (p :: xs) w1 (HR.out.below Bw1.out)).mono ?_
 rintro e w2 ⟨rfl, hb⟩
 dsimp only [partV, headL]
 have B2 := mz (below_step Bw1.out hb)
 have K2b := mz (blk_below Kg2.out hb)
 clear hb x0 x1 x2 xf0 xf1 xf2
 go_upto_region 2 with ((with_reducible refine gate_dst (N := 3) rfl ?_); refine bx 3 #[.int .i64 0, .string ⟨#[]⟩, .string ⟨#[]⟩] 86 ?_; intro g3 hg w3 hbox hb; have HGg3 := mz hg; have Bw3 := mz hb; have Kg3 := mz hbox; obtain ⟨y0, y1, y2⟩ := cells3 hbox; obtain ⟨yf0, yf1, yf2⟩ := froz3 hbox; clear hg hb hbox)
 obtain ⟨hbk, hbb⟩ := fill3 (v0 := .int .i64 p.f0) (v1 := .string p.f1) (v2 := .string p.f2) Bw3.out (Nat.le_of_eq HGg3.out.symm) Kg3.out
 clear y0 y1 y2 yf0 yf1 yf2
 generalize (((w3.setCell ⟨g3, 0, none⟩ (.int .i64 p.f0)).setCell ⟨g3, 1, none⟩ (.string p.f1)).setCell ⟨g3, 2, none⟩ (.string p.f2)) = w4 at hbk hbb ⊢
 have K3 := mz hbk
 have B4 := mz (below_step B2.out hbb)
 have K2c := mz (blk_below K2b.out hbb)
 have hR4 := HR.out.below B4.out
 obtain ⟨A', c', hA', hc', hR5, hS5⟩ := rd_adv hR4 base HGB.out
 have c0 : w4.cell? ⟨g, 0, none⟩ = some (.slice A (xs.length + 1) c) := rd_cell hR4
 have fz := blk_frozen hR4.blk 0
 have ne2 : g2 ≠ g := fun e => by have := blk_lt HR.out.blk; have := HGg2.out; omega
 have ne3 : g3 ≠ g := fun e => by have := blk_lt HR.out.blk; have := HGg3.out; have := B2.out.size; omega
 have K2d := mz (blk_far (p := ⟨g, 0, none⟩) K2c.out ne2 (.slice (if c = 1 then A else A.map (·.add 3)) xs.length (c - 1)))
 have K3d := mz (blk_far (p := ⟨g, 0, none⟩) K3.out ne3 (.slice (if c = 1 then A else A.map (·.add 3)) xs.length (c - 1)))
 have HR5 := mz hR5
 have HS5 := mz ((RStep.of_below (g := g) (A := A) B4.out HS.out).trans hS5)
 have hcap := hR4.cap
 simp only [List.length_cons] at hcap
 have HNA : Aside0 (∀ a, A' = some a → a.block ≠ g2) := ⟨fun a e => by rw [hA'] at e; obtain ⟨b, hb2, e2⟩ := (rd_rest HR.out).2.2 a e; obtain ⟨b', hb3, hlt⟩ := C_addr HR.out.row (by simp); rw [hb2] at hb3; injection hb3 with hb3; subst hb3; rw [e2]; have := HGg2.out; omega⟩
 clear hbk hbb hR4 hR5 hS5 hA' hc'
 obtain ⟨Av, hAv⟩ : ∃ Av, (if c = 1 then A else A.map (·.add 3)) = Av := ⟨_, rfl⟩
 rw [hAv] at K2d K3d HR5 HS5
 have HAV := mz hAv
 clear hAv
 go_upto_region 3 with fail
 have HE : (if c = 1 then A else Option.map (fun x : Addr => (⟨x.block, x.off + 3, none⟩ : Addr)) A) = Av := (show_add c A).trans HAV.out
 rw [HE]
 generalize w4.setCell ⟨g, 0, none⟩ (.slice Av xs.length (c - 1)) = w5 at K2d K3d HR5 HS5 ⊢
 clear c0 fz HE
 obtain ⟨y0, y1, y2⟩ := cells3 K3d.out
 obtain ⟨x0, x1, x2⟩ := cells3 K2d.out
 obtain ⟨xf0, xf1, xf2⟩ := froz3 K2d.out
 go_wp2_with fail
 refine bodyPost_ret (results_cell_row rfl _ _ g2 86 #[.int .i64 p.f0, .string p.f1, .string p.f2] (0, 0) _ rfl (blk_put (cs' := #[.int .i64 p.f0, .string p.f1, .string p.f2]) (blk_put (cs' := #[.int .i64 p.f0, .string p.f1, .string ⟨#[]⟩]) (blk_put (cs' := #[.int .i64 p.f0, .string ⟨#[]⟩, .string ⟨#[]⟩]) K2d.out 0 (.int .i64 p.f0) rfl) 1 (.string p.f1) rfl) 2 (.string p.f2) rfl) Try.underlying86 rfl (by kernel_rfl)) rfl ?_
 exact ⟨rfl, A', c', rd_tail HR5.out HS5.out HS.out (blk_lt HR.out.blk) K2d.out HGg2.out (fun a e => HNA.out a e) _ _ _⟩
section
attribute [local go_sem high] eqA86
theorem yA0 {P : Program} {ops : Array Oper} {Q : Exit → Act → World → Prop} {md : Region.Mode} {S : World → Prop} {ds : List Nat} {fuel : Nat} {listed : Array Bool} {a : Act} {w : World} {oi : Oper}
  (i : Nat) (s x : Operand) (t : TypeId) (base : Nat) (e : TypeId) (inf : TypeInfo) (z : Value) (size bytes : Nat) (ht : P.underlying t = some (.slice e)) (hinf : P.info? e = some inf) (hz : inf.zero = some z)
  (hsize : inf.size = size) (hby : inf.bytes = bytes) (hzs : z.cells.size = size) (hsz : 0 < size)
  (v : Value) (n : Nat) (xs : List Value) (hs : a.eval s = v) (hown : w.ownsRow base e size v n xs)
  (ad : Addr) (m c : Nat) (news : List Value) (hx : a.eval x = .slice (some ad) m c) (hl : news.length = m * size) (hnews : ∀ j u, news[j]? = some u → w.cell? (ad.add j) = some u) (h1 : ∀ u ∈ news, u.oneCell' = true)
  (h63 : n + m ≤ maxLen) (hbytes : (n + m) * bytes ≤ 140737488355328) (hbase : base ≤ w.heap.size)
  (h : ∀ v' w', w'.ownsRow base e size v' (n + m) (xs ++ news) → w.grownBy w' v.ownBlock → (v'.ownBlock = v.ownBlock ∨ v'.ownBlock = some w.heap.size) →
   S w' ∧ ∀ a', a.put oi.dst v' = a' → (S w' → wpAnyLast P md ops Q S ds fuel (listed.setIfInBounds i true) a' w'))
  (hi : ops[i]? = some oi := by rfl) (hc : readyB md ops listed (listed.setIfInBounds i true) i = true := by kernel_rfl) (hd : i ∉ ds := by decide) (hgw : Region.wanted oi (yielded ops a.tmps) = true := by rfl)
  (ho : oi.op = .call { callee := .builtin .append, args := #[s, x], argTypes := #[t, t] } := by rfl) : wpAnyLast P md ops Q S ds (fuel + 1) listed a w := by
 refine one_ _ hi rfl hc hd (fun K hK => ?_)
 rw [if_pos hgw]
 obtain ⟨v', w', hr, h2, h3, h4, h5⟩ := run_append_own_at (P := P) w base t oi.type e inf z size bytes ht hinf hz hsize hby hzs hsz v n xs hown ad m c news hl hnews h1 h63 hbytes hbase
 unfold Oper.wp execOp
 simp only [ho, resolve, invoke, builtin, Sem.run_bind, Sem.run_pure, Result.andThen_ok, List.map_toArray, List.map_cons, List.map_nil, hs, hx, hr]
 obtain ⟨h6, h7⟩ := h v' w' h2 h3 h5
 exact hK _ _ h6 (h7 _ rfl)

theorem two_new1 (w : World) (o : Obj) {g : Nat} {c : Obj} (h : w.heap[g]? = some c) : ((w.drew.alloc o).alloc o).heap[w.heap.size]? = some o ∧ ((w.drew.alloc o).alloc o).heap[(w.drew.alloc o).heap.size]? = some o ∧ w.heap.size ≠ (w.drew.alloc o).heap.size ∧ w.heap.size ≤ w.heap.size ∧ w.heap.size ≤ (w.drew.alloc o).heap.size ∧ Below w.heap.size w ((w.drew.alloc o).alloc o) ∧ ((w.drew.alloc o).alloc o).heap[g]? = some c :=
 ⟨blk_alloc (blk_new w.drew o) o, blk_new (w.drew.alloc o) o, by simp, Nat.le_refl _, by simp, below_alloc (below_alloc (below_drew (Below.refl _ _)) _) _, blk_alloc (blk_alloc (blk_drew h) _) _⟩
theorem two_new2 (w : World) (o : Obj) {g : Nat} {c : Obj} (h : w.heap[g]? = some c) : ((w.drew.alloc o).alloc o).heap[(w.drew.alloc o).heap.size]? = some o ∧ ((w.drew.alloc o).alloc o).heap[w.heap.size]? = some o ∧ (w.drew.alloc o).heap.size ≠ w.heap.size ∧ w.heap.size ≤ (w.drew.alloc o).heap.size ∧ w.heap.size ≤ w.heap.size ∧ Below w.heap.size w ((w.drew.alloc o).alloc o) ∧ ((w.drew.alloc o).alloc o).heap[g]? = some c :=
 ⟨blk_new (w.drew.alloc o) o, blk_alloc (blk_new w.drew o) o, by simp, by simp, Nat.le_refl _, below_alloc (below_alloc (below_drew (Below.refl _ _)) _) _, blk_alloc (blk_alloc (blk_drew h) _) _⟩
theorem fillP {w : World} {g : Nat} {cs : Array Value} (h : w.heap[g]? = some (.cells cs 86 (0, 0))) (hs : cs.size = 3) (a : Int) (b c : ByteArray) : (((w.setCell ⟨g, 0, none⟩ (.int .i64 a)).setCell ⟨g, 1, none⟩ (.string b)).setCell ⟨g, 2, none⟩ (.string c)).heap[g]? = some (.cells #[.int .i64 a, .string b, .string c] 86 (0, 0)) := by
 obtain ⟨l⟩ := cs
 obtain ⟨x, y, z, rfl⟩ : ∃ x y z, l = [x, y, z] := by
  rcases l with _ | ⟨x, _ | ⟨y, _ | ⟨z, _ | ⟨u, l⟩⟩⟩⟩
  all_goals simp at hs
  exact ⟨x, y, z, rfl⟩
 exact blk_put (cs' := #[.int .i64 a, .string b, .string c]) (blk_put (cs' := #[.int .i64 a, .string b, z]) (blk_put (cs' := #[.int .i64 a, y, z]) h 0 _ rfl) 1 _ rfl) 2 _ rfl
theorem farP {w : World} {g k : Nat} {o : Obj} (h : w.heap[k]? = some o) (hne : k ≠ g) (a b c : Value) : (((w.setCell ⟨g, 0, none⟩ a).setCell ⟨g, 1, none⟩ b).setCell ⟨g, 2, none⟩ c).heap[k]? = some o :=
 (Below.heap_setCell _ _ _ _ hne).trans ((Below.heap_setCell _ _ _ _ hne).trans ((Below.heap_setCell _ _ _ _ hne).trans h))
theorem belowP {n : Nat} {w w1 : World} {g : Nat} (h : Below n w w1) (hg : n ≤ g) (a b c : Value) : Below n w (((w1.setCell ⟨g, 0, none⟩ a).setCell ⟨g, 1, none⟩ b).setCell ⟨g, 2, none⟩ c) := ((h.setCell hg _).setCell hg _).setCell hg _
theorem two_fill {w w' : World} {g5 g6 g7 : Nat} {o5 : Obj} (k6 : w'.heap[g6]? = some (.cells #[.int .i64 0, .string ⟨#[]⟩, .string ⟨#[]⟩] 86 (0, 0))) (k7 : w'.heap[g7]? = some (.cells #[.int .i64 0, .string ⟨#[]⟩, .string ⟨#[]⟩] 86 (0, 0))) (hne : g6 ≠ g7) (h6 : w.heap.size ≤ g6) (h7 : w.heap.size ≤ g7) (hb : Below w.heap.size w w') (k5 : w'.heap[g5]? = some o5) (h5 : g5 < w.heap.size) (p : Part) :
  (((w'.setCell ⟨g6, 0, none⟩ (.int .i64 p.f0)).setCell ⟨g6, 1, none⟩ (.string p.f1)).setCell ⟨g6, 2, none⟩ (.string p.f2)).heap[g5]? = some o5 ∧ (((w'.setCell ⟨g6, 0, none⟩ (.int .i64 p.f0)).setCell ⟨g6, 1, none⟩ (.string p.f1)).setCell ⟨g6, 2, none⟩ (.string p.f2)).heap[g7]? = some (.cells #[.int .i64 0, .string ⟨#[]⟩, .string ⟨#[]⟩] 86 (0, 0)) ∧ ((((((w'.setCell ⟨g6, 0, none⟩ (.int .i64 p.f0)).setCell ⟨g6, 1, none⟩ (.string p.f1)).setCell ⟨g6, 2, none⟩ (.string p.f2)).setCell ⟨g7, 0, none⟩ (.int .i64 p.f0)).setCell ⟨g7, 1, none⟩ (.string p.f1)).setCell ⟨g7, 2, none⟩ (.string p.f2)).heap[g5]? = some o5 ∧ ((((((w'.setCell ⟨g6, 0, none⟩ (.int .i64 p.f0)).setCell ⟨g6, 1, none⟩ (.string p.f1)).setCell ⟨g6, 2, none⟩ (.string p.f2)).setCell ⟨g7, 0, none⟩ (.int .i64 p.f0)).setCell ⟨g7, 1, none⟩ (.string p.f1)).setCell ⟨g7, 2, none⟩ (.string p.f2)).heap[g6]? = some (.cells #[.int .i64 p.f0, .string p.f1, .string p.f2] 86 (0, 0)) ∧ ((((((w'.setCell ⟨g6, 0, none⟩ (.int .i64 p.f0)).setCell ⟨g6, 1, none⟩ (.string p.f1)).setCell ⟨g6, 2, none⟩ (.string p.f2)).setCell ⟨g7, 0, none⟩ (.int .i64 p.f0)).setCell ⟨g7, 1, none⟩ (.string p.f1)).setCell ⟨g7, 2, none⟩ (.string p.f2)).heap[g7]? = some (.cells #[.int .i64 p.f0, .string p.f1, .string p.f2] 86 (0, 0)) ∧ Below w.heap.size w ((((((w'.setCell ⟨g6, 0, none⟩ (.int .i64 p.f0)).setCell ⟨g6, 1, none⟩ (.string p.f1)).setCell ⟨g6, 2, none⟩ (.string p.f2)).setCell ⟨g7, 0, none⟩ (.int .i64 p.f0)).setCell ⟨g7, 1, none⟩ (.string p.f1)).setCell ⟨g7, 2, none⟩ (.string p.f2)) := by
 have e6 : (((w'.setCell ⟨g6, 0, none⟩ (.int .i64 p.f0)).setCell ⟨g6, 1, none⟩ (.string p.f1)).setCell ⟨g6, 2, none⟩ (.string p.f2)).heap[g7]? = some (.cells #[.int .i64 0, .string ⟨#[]⟩, .string ⟨#[]⟩] 86 (0, 0)) := farP k7 (Ne.symm hne) _ _ _
 have e5 : (((w'.setCell ⟨g6, 0, none⟩ (.int .i64 p.f0)).setCell ⟨g6, 1, none⟩ (.string p.f1)).setCell ⟨g6, 2, none⟩ (.string p.f2)).heap[g5]? = some o5 := farP k5 (by omega) _ _ _
 exact ⟨e5, e6, farP e5 (by omega) _ _ _, farP (fillP k6 rfl _ _ _) hne _ _ _, fillP e6 rfl _ _ _, belowP (belowP hb h6 _ _ _) h7 _ _ _⟩
theorem row_one (W : World) (base : Nat) (hb : base ≤ W.heap.size) (p : Part) : (W.alloc (.cells (cellsP p).toArray 86)).ownsRow base 86 3 (.slice (some ⟨W.heap.size, 0, none⟩) 1 1) 1 (cellsP p) := by
 have h2 := World.ownsRow_lit (base := base) (e := 86) (size := 3) W (cellsP p).toArray 1 hb (by unfold maxLen; omega) (by rfl)
 simpa using h2
theorem cut_app {W w9 : World} {base : Nat} {p : Part} {xs : List Part} {v9 : Value} (hb : base ≤ W.heap.size) (ho : w9.ownsRow base 86 3 v9 (1 + xs.length) (cellsP p ++ xs.flatMap cellsP)) (hg : (W.drew.alloc (.cells (cellsP p).toArray 86)).grownBy w9 (some W.heap.size))
  (hat : v9.ownBlock = some W.heap.size ∨ v9.ownBlock = some (W.drew.alloc (.cells (cellsP p).toArray 86)).heap.size) :
  Below W.heap.size W w9 ∧ ∃ A c, v9 = .slice A (p :: xs).length c ∧ Kd.C k86 w9 A (p :: xs).length (p :: xs) ∧ (p :: xs).length ≤ c ∧ ∀ a, A = some a → W.heap.size ≤ a.block := by
 have hB : Below W.heap.size W w9 := (below_alloc (below_drew (Below.refl W.heap.size W)) _).grown hg (by simp) (fun k hk => by injection hk with hk; omega)
 rw [Nat.add_comm] at ho
 have hR := R_of_flat (l := p :: xs) ho
 obtain ⟨A, c, e, hc, hC⟩ := Kd.R_reads hR
 refine ⟨hB, A, c, e, hC, hc, fun a ea => ?_⟩
 subst ea
 rw [e] at hat
 rcases hat with h | h
 ·injection h with h; omega
 ·injection h with h; rw [h]; simp
set_option maxHeartbeats 8000000 in
set_option maxRecDepth 100000 in
theorem rd_cut_walk (base g : Nat) (A : Option Addr) (c : Nat) (p : Part) (xs : List Part) (w : World) (h : IsRd 138 w g A c (p :: xs)) (hg : base ≤ g) (n : Nat) (hn : n ≤ sizeP p) (hp : pureP p) (hx : xs.length ≤ 100000) (hs : sizeP p ≤ 1000000) :
  Calls Try.prog 113 #[.pointer (some ⟨g, 0, none⟩), .int .i64 n] w fun e w' => e = .returned (partV (firstP p n)) ∧ RdPost 138 base g A (cutL p xs n) w w' := by
 have HR := mz h
 have HGB := mz hg
 have HS : Aside0 (base ≤ w.heap.size) := ⟨by have := blk_lt h.blk; omega⟩
 clear h hg
 go_enter Try.func113, Try.ntmps113
 go_wp2_with ((with_reducible refine gate_dst (N := 4) rfl ?_); refine bx 4 #[.int .i64 0, .string ⟨#[]⟩, .string ⟨#[]⟩] 86 ?_; intro g4 hg w1 hbox hb; have HGg4 := mz hg; have Bw1 := mz hb; have Kg4 := mz hbox; obtain ⟨x0, x1, x2⟩ := cells3 hbox; obtain ⟨xf0, xf1, xf2⟩ := froz3 hbox; clear hg hb hbox)
 refine (rd_head g A c (p :: xs) w1 (HR.out.below Bw1.out)).mono ?_
 rintro e w2 ⟨rfl, hb⟩
 dsimp only [partV, headL]
 have B2 := mz (below_step Bw1.out hb)
 have K4b := mz (blk_below Kg4.out hb)
 clear hb x0 x1 x2 xf0 xf1 xf2
 go_upto_region 2 with ((with_reducible refine gate_dst (N := 5) rfl ?_); refine bx 5 #[.int .i64 0, .string ⟨#[]⟩, .string ⟨#[]⟩] 86 ?_; intro g5 hg w3 hbox hb; have HGg5 := mz hg; have Bw3 := mz hb; have Kg5 := mz hbox; obtain ⟨y0, y1, y2⟩ := cells3 hbox; obtain ⟨yf0, yf1, yf2⟩ := froz3 hbox; clear hg hb hbox)
 obtain ⟨hbk, hbb⟩ := fill3 (v0 := .int .i64 p.f0) (v1 := .string p.f1) (v2 := .string p.f2) Bw3.out (Nat.le_of_eq HGg5.out.symm) Kg5.out
 clear y0 y1 y2 yf0 yf1 yf2
 generalize (((w3.setCell ⟨g5, 0, none⟩ (.int .i64 p.f0)).setCell ⟨g5, 1, none⟩ (.string p.f1)).setCell ⟨g5, 2, none⟩ (.string p.f2)) = w5 at hbk hbb ⊢
 have K5 := mz hbk
 have B5 := mz (below_step B2.out hbb)
 have K4c := mz (blk_below K4b.out hbb)
 have G45 : Aside0 (g4 < g5) := ⟨by have h1 := blk_lt K4b.out; have := HGg5.out; omega⟩
 clear hbk hbb
 have F : ∀ W' : World, W'.heap[g5]? = some (.cells #[.int .i64 p.f0, .string p.f1, .string p.f2] 86 (0, 0)) → W'.cell? ⟨g5, 0, none⟩ = some (.int .i64 p.f0) ∧ W'.cell? ⟨g5, 1, none⟩ = some (.string p.f1) ∧ W'.cell? ⟨g5, 2, none⟩ = some (.string p.f2) := fun W' hb => cells3 hb
 refine wp_region_last_drew (ds := []) (S := fun W' => W'.heap[g5]? = some (.cells #[.int .i64 p.f0, .string p.f1, .string p.f2] 86 (0, 0))) (by kernel_rfl) K5.out (fun hH => ?_)
 refine' yT 0 F ?_
 refine' yT 1 F ?_
 refine join_ (σ := Nat × Nat) 2 #[true, true, true, true, false, false] (fun s => [(6, .pointer (some ⟨s.1, 0, none⟩)), (7, .pointer (some ⟨s.2, 0, none⟩))]) (fun s w' => w'.heap[s.1]? = some (.cells #[.int .i64 0, .string ⟨#[]⟩, .string ⟨#[]⟩] 86 (0, 0)) ∧ w'.heap[s.2]? = some (.cells #[.int .i64 0, .string ⟨#[]⟩, .string ⟨#[]⟩] 86 (0, 0)) ∧ s.1 ≠ s.2 ∧ w5.heap.size ≤ s.1 ∧ w5.heap.size ≤ s.2 ∧ Below w5.heap.size w5 w' ∧ w'.heap[g5]? = some (.cells #[.int .i64 p.f0, .string p.f1, .string p.f2] 86 (0, 0))) (fun s w' hF => ?cont) (fun hcont => ?ord)
 case ord =>
  have HK5 := mz K5.out
  clear HR HGB HS K4c G45 B5
  refine two_ (i := 2) (j := 3) #[true, true, true, false, false, false] #[true, true, false, true, false, false] rfl rfl rfl rfl (by kernel_rfl) (by decide) (by decide) (fun K hK => ?_) (fun K hK => ?_)
  ·refine value_ (v := .pointer (some ⟨(w5.drew).heap.size, 0, none⟩)) (w1 := (w5.drew).alloc (.cells #[.int .i64 0, .string ⟨#[]⟩, .string ⟨#[]⟩] 86 (0, 0))) (by rfl) rfl a33_ (hK _ _ (blk_alloc (by assumption) _) (fun hH2 => ?_))
   clear hK K
   refine one_ (i := 3) #[true, true, true, true, false, false] rfl rfl (by kernel_rfl) (by decide) (fun K hK => ?_)
   refine value_ (v := .pointer (some ⟨(w5.drew.alloc (.cells #[.int .i64 0, .string ⟨#[]⟩, .string ⟨#[]⟩] 86 (0, 0))).heap.size, 0, none⟩)) (w1 := (w5.drew.alloc (.cells #[.int .i64 0, .string ⟨#[]⟩, .string ⟨#[]⟩] 86 (0, 0))).alloc (.cells #[.int .i64 0, .string ⟨#[]⟩, .string ⟨#[]⟩] 86 (0, 0))) (by rfl) rfl a33_ (hK _ _ (blk_alloc (by assumption) _) (fun hH2 => ?_))
   clear hK K
   refine norm_ (a' := putAll _ [(6, .pointer (some ⟨w5.heap.size, 0, none⟩)), (7, .pointer (some ⟨(w5.drew.alloc (.cells #[.int .i64 0, .string ⟨#[]⟩, .string ⟨#[]⟩] 86 (0, 0))).heap.size, 0, none⟩))]) (by rfl) (hcont (w5.heap.size, (w5.drew.alloc (.cells #[.int .i64 0, .string ⟨#[]⟩, .string ⟨#[]⟩] 86 (0, 0))).heap.size) _ ?_)
   exact two_new1 w5 (.cells #[.int .i64 0, .string ⟨#[]⟩, .string ⟨#[]⟩] 86 (0, 0)) HK5.out
  ·refine value_ (v := .pointer (some ⟨(w5.drew).heap.size, 0, none⟩)) (w1 := (w5.drew).alloc (.cells #[.int .i64 0, .string ⟨#[]⟩, .string ⟨#[]⟩] 86 (0, 0))) (by rfl) rfl a33_ (hK _ _ (blk_alloc (by assumption) _) (fun hH2 => ?_))
   clear hK K
   refine one_ (i := 2) #[true, true, true, true, false, false] rfl rfl (by kernel_rfl) (by decide) (fun K hK => ?_)
   refine value_ (v := .pointer (some ⟨(w5.drew.alloc (.cells #[.int .i64 0, .string ⟨#[]⟩, .string ⟨#[]⟩] 86 (0, 0))).heap.size, 0, none⟩)) (w1 := (w5.drew.alloc (.cells #[.int .i64 0, .string ⟨#[]⟩, .string ⟨#[]⟩] 86 (0, 0))).alloc (.cells #[.int .i64 0, .string ⟨#[]⟩, .string ⟨#[]⟩] 86 (0, 0))) (by rfl) rfl a33_ (hK _ _ (blk_alloc (by assumption) _) (fun hH2 => ?_))
   clear hK K
   refine norm_ (a' := putAll _ [(6, .pointer (some ⟨(w5.drew.alloc (.cells #[.int .i64 0, .string ⟨#[]⟩, .string ⟨#[]⟩] 86 (0, 0))).heap.size, 0, none⟩)), (7, .pointer (some ⟨w5.heap.size, 0, none⟩))]) (by rfl) (hcont ((w5.drew.alloc (.cells #[.int .i64 0, .string ⟨#[]⟩, .string ⟨#[]⟩] 86 (0, 0))).heap.size, w5.heap.size) _ ?_)
   exact two_new2 w5 (.cells #[.int .i64 0, .string ⟨#[]⟩, .string ⟨#[]⟩] 86 (0, 0)) HK5.out
 obtain ⟨g6, g7⟩ := s
 obtain ⟨k6, k7, hne, h6, h7, hb, k5⟩ := hF
 (try dsimp only at k6 k7 hne h6 h7)
 refine norm_ (by (simp only [putAll, Act.put, List.getElem_toArray, List.getElem_cons_succ, List.getElem_cons_zero, List.setIfInBounds_toArray, List.set_cons_zero, List.set_cons_succ]; rfl)) ?_
 obtain ⟨y60, y61, y62⟩ := cells3 k6
 obtain ⟨y70, y71, y72⟩ := cells3 k7
 have hne' := Ne.symm hne
 have z6 := froz3 k6
 have z7 := froz3 k7
 obtain ⟨z60, z61, z62⟩ := z6
 obtain ⟨z70, z71, z72⟩ := z7
 have BK := mz (two_fill k6 k7 hne h6 h7 hb k5 (blk_lt K5.out) p)
 refine' yM 4 (w1 := (((w'.setCell ⟨g6, 0, none⟩ (.int .i64 p.f0)).setCell ⟨g6, 1, none⟩ (.string p.f1)).setCell ⟨g6, 2, none⟩ (.string p.f2))) (BK.out.1) (fun hS4 => ?_)
 skip
 have z7' := froz3 BK.out.2.1
 obtain ⟨z70', z71', z72'⟩ := z7'
 refine' yM 5 (w1 := ((((((w'.setCell ⟨g6, 0, none⟩ (.int .i64 p.f0)).setCell ⟨g6, 1, none⟩ (.string p.f1)).setCell ⟨g6, 2, none⟩ (.string p.f2)).setCell ⟨g7, 0, none⟩ (.int .i64 p.f0)).setCell ⟨g7, 1, none⟩ (.string p.f1)).setCell ⟨g7, 2, none⟩ (.string p.f2))) (BK.out.2.2.1) (fun hS5 => ?_)
 refine done_ (by kernel_rfl) ?_
 have K6 := mz BK.out.2.2.2.1
 have K7 := mz BK.out.2.2.2.2.1
 have B57 := mz BK.out.2.2.2.2.2
 have K5' := mz BK.out.2.2.1
 have H6 := mz h6
 have H7 := mz h7
 have HNE := mz hne
 clear y60 y61 y62 y70 y71 y72 hne' z60 z61 z62 z70 z71 z72 z70' z71' z72' hS4 hS5 BK k6 k7 hne h6 h7 hb k5 hH F
 generalize ((((((w'.setCell ⟨g6, 0, none⟩ (.int .i64 p.f0)).setCell ⟨g6, 1, none⟩ (.string p.f1)).setCell ⟨g6, 2, none⟩ (.string p.f2)).setCell ⟨g7, 0, none⟩ (.int .i64 p.f0)).setCell ⟨g7, 1, none⟩ (.string p.f1)).setCell ⟨g7, 2, none⟩ (.string p.f2)) = w7 at K6 K7 B57 K5' ⊢
 have B7 := mz (below_step B5.out B57.out)
 have K4d := mz (blk_below K4c.out B57.out)
 have HR7 := mz (HR.out.below (below_step B5.out B57.out))
 have G6 : Aside0 (g5 < g6 ∧ g4 < g6 ∧ w.heap.size ≤ g6) := ⟨by have h1 := blk_lt K5.out; have h2 := H6.out; have h3 := G45.out; have h4 := HGg4.out; omega⟩
 have G7 : Aside0 (g5 < g7 ∧ g4 < g7 ∧ w.heap.size ≤ g7) := ⟨by have h1 := blk_lt K5.out; have h2 := H7.out; have h3 := G45.out; have h4 := HGg4.out; omega⟩
 have G5 : Aside0 (w.heap.size ≤ g5) := ⟨by have h3 := G45.out; have h4 := HGg4.out; omega⟩
 clear B2 K4b B5 K4c B57 K5 H6 H7 Bw1 Kg4 Bw3 Kg5 HGg5
 obtain ⟨s50, s51, s52⟩ := cells3 K5'.out
 by_cases hk : 0 < p.f0
 ·have hkn : (n : Int) ≤ p.f0 := by have := pure_keep hp hk; rw [this] at hn; simp [sizeP, noB_size] at hn; omega
  have hkb : p.f0 ≤ 1000000 := by simp only [sizeP] at hs; omega
  have hwr : IntKind.i64.wrap (p.f0 - (n : Int)) = p.f0 - (n : Int) := by rw [i64_w, w64 (by omega) (by omega)]
  have HF : Aside0 (firstP p n = ⟨n, p.f1, p.f2⟩) := ⟨by simp only [firstP, if_pos hk]⟩
  have HQ : Aside0 (restQ p n = ⟨p.f0 - n, p.f1, p.f2⟩) := ⟨by simp only [restQ, if_pos hk]⟩
  go_upto_region 5 with fail
  clear s50 s51 s52
  refine wp_region_last_drew (ds := []) (S := fun W' => W'.heap[g5]? = some (.cells #[.int .i64 p.f0, .string p.f1, .string p.f2] 86 (0, 0))) (by kernel_rfl) K5'.out (fun hH => ?_)
  have F : ∀ W' : World, W'.heap[g5]? = some (.cells #[.int .i64 p.f0, .string p.f1, .string p.f2] 86 (0, 0)) → W'.cell? ⟨g5, 0, none⟩ = some (.int .i64 p.f0) ∧ W'.cell? ⟨g5, 1, none⟩ = some (.string p.f1) ∧ W'.cell? ⟨g5, 2, none⟩ = some (.string p.f2) := fun W' hb => cells3 hb
  refine' yT 0 F ?_
  refine' yT 1 F ?_
  refine' yT 2 F ?_
  refine' yT 3 F ?_
  refine' yT 4 F ?_
  refine' yT 5 F ?_
  have e6 : (w7.drew.setCell ⟨g6, 0, none⟩ (.int .i64 (n : Int))).heap[g5]? = some (.cells #[.int .i64 p.f0, .string p.f1, .string p.f2] 86 (0, 0)) := blk_far (p := ⟨g6, 0, none⟩) hH (by have := G6.out.1; show g5 ≠ g6; omega) _
  have e7 : ((w7.drew.setCell ⟨g6, 0, none⟩ (.int .i64 (n : Int))).setCell ⟨g7, 0, none⟩ (.int .i64 (p.f0 - (n : Int)))).heap[g5]? = some (.cells #[.int .i64 p.f0, .string p.f1, .string p.f2] 86 (0, 0)) := blk_far (p := ⟨g7, 0, none⟩) e6 (by have := G7.out.1; show g5 ≠ g7; omega) _
  have hne := HNE.out
  have q6 := (blk_cell (blk_drew K6.out) 0).trans rfl
  have r6 := blk_frozen (blk_drew K6.out) 0
  have k67 := blk_far (p := ⟨g6, 0, none⟩) (blk_drew K7.out) (Ne.symm hne) (.int .i64 (n : Int))
  have q7 := (blk_cell K7.out 0).trans rfl
  have r7 := blk_frozen K7.out 0
  have hne' := Ne.symm hne
  refine' yM 6 (w1 := w7.drew.setCell ⟨g6, 0, none⟩ (.int .i64 (n : Int))) e6 (fun hS6 => ?_)
  refine' yT 7 F ?_
  refine' yM 8 (w1 := (w7.drew.setCell ⟨g6, 0, none⟩ (.int .i64 (n : Int))).setCell ⟨g7, 0, none⟩ (.int .i64 (p.f0 - (n : Int)))) e7 (fun hS7 => ?_)
  refine done_ (by kernel_rfl) ?_
  have N6 := mz (blk_far (p := ⟨g7, 0, none⟩) (blk_put (cs' := #[.int .i64 (n : Int), .string p.f1, .string p.f2]) (blk_drew K6.out) 0 (.int .i64 (n : Int)) rfl) hne (.int .i64 (p.f0 - (n : Int))))
  have N7 := mz (blk_put (cs' := #[.int .i64 (p.f0 - (n : Int)), .string p.f1, .string p.f2]) k67 0 (.int .i64 (p.f0 - (n : Int))) rfl)
  have N4 := mz (blk_far (p := ⟨g7, 0, none⟩) (blk_far (p := ⟨g6, 0, none⟩) (blk_drew K4d.out) (by have := G6.out.2; show g4 ≠ g6; omega) (.int .i64 (n : Int))) (by have := G7.out.2; show g4 ≠ g7; omega) (.int .i64 (p.f0 - (n : Int))))
  have B8 := mz (below_set (j := 0) (v := .int .i64 (p.f0 - (n : Int))) (below_set (j := 0) (v := .int .i64 (n : Int)) (below_drew B7.out) G6.out.2.2) G7.out.2.2)
  clear hH F e6 e7 q6 r6 k67 q7 r7 hS6 hS7 K6 K7 K4d B7 K5' HR7 hne hne'
  generalize (w7.drew.setCell ⟨g6, 0, none⟩ (.int .i64 (n : Int))).setCell ⟨g7, 0, none⟩ (.int .i64 (p.f0 - (n : Int))) = w8 at N6 N7 N4 B8 ⊢
  have HR8 := mz (HR.out.below B8.out)
  obtain ⟨e70, e71, e72⟩ := cells3 N7.out
  obtain ⟨y1, y2⟩ := hp.2.1 (by omega)
  have l_pf1 : p.f1.toList = [] := (toList_nil _).2 y1
  have m_pf1 : p.f1.toList.isEmpty = true := by rw [l_pf1]; rfl
  have l_pf2 : p.f2.toList = [] := (toList_nil _).2 y2
  have m_pf2 : p.f2.toList.isEmpty = true := by rw [l_pf2]; rfl
  by_cases hz : zeroP (restQ p n) = true
  ·have hq0 : (p.f0 - (n : Int) == 0) = true := by have := (zeroP_iff _).1 hz; rw [HQ.out] at this; injection this with h0; simpa using h0
   have HCU : Aside0 (cutL p xs n = xs) := ⟨by unfold cutL; rw [if_pos hz]⟩
   go_upto_region 9 with fail
   clear e70 e71 e72
   obtain ⟨A', c', hA', hc', hR9, hS9⟩ := rd_adv HR8.out base HGB.out
   have c0 : w8.cell? ⟨g, 0, none⟩ = some (.slice A (xs.length + 1) c) := rd_cell HR8.out
   have fz := blk_frozen HR8.out.blk 0
   have ne4 : g4 ≠ g := fun e => by have := blk_lt HR.out.blk; have := HGg4.out; omega
   have ne6 : g6 ≠ g := fun e => by have := blk_lt HR.out.blk; have := G6.out; omega
   have M4 := mz (blk_far (p := ⟨g, 0, none⟩) N4.out ne4 (.slice (if c = 1 then A else A.map (·.add 3)) xs.length (c - 1)))
   have M6 := mz (blk_far (p := ⟨g, 0, none⟩) N6.out ne6 (.slice (if c = 1 then A else A.map (·.add 3)) xs.length (c - 1)))
   have HR9 := mz hR9
   have HS9 := mz ((RStep.of_below (g := g) (A := A) B8.out HS.out).trans hS9)
   have hcap := HR8.out.cap
   simp only [List.length_cons] at hcap
   have HNA : Aside0 (∀ a, A' = some a → a.block ≠ g4) := ⟨fun a e => by rw [hA'] at e; obtain ⟨b, hb2, e2⟩ := (rd_rest HR.out).2.2 a e; obtain ⟨b', hb3, hlt⟩ := C_addr HR.out.row (by simp); rw [hb2] at hb3; injection hb3 with hb3; subst hb3; rw [e2]; have := HGg4.out; omega⟩
   clear hA' hc' hR9 hS9
   obtain ⟨Av, hAv⟩ : ∃ Av, (if c = 1 then A else A.map (·.add 3)) = Av := ⟨_, rfl⟩
   rw [hAv] at M4 M6 HR9 HS9
   have HAV := mz hAv
   clear hAv
   go_upto_region 11 with fail
   have HE : (if c = 1 then A else Option.map (fun x : Addr => (⟨x.block, x.off + 3, none⟩ : Addr)) A) = Av := (show_add c A).trans HAV.out
   rw [HE]
   generalize w8.setCell ⟨g, 0, none⟩ (.slice Av xs.length (c - 1)) = w9 at M4 M6 HR9 HS9 ⊢
   clear c0 fz HE
   obtain ⟨u0, u1, u2⟩ := cells3 M6.out
   obtain ⟨t0, t1, t2⟩ := cells3 M4.out
   obtain ⟨t3, t4, t5⟩ := froz3 M4.out
   go_wp2_with fail
   have hfin := blk_put (cs' := #[.int .i64 (n : Int), .string p.f1, .string p.f2]) (blk_put (cs' := #[.int .i64 (n : Int), .string p.f1, .string ⟨#[]⟩]) (blk_put (cs' := #[.int .i64 (n : Int), .string ⟨#[]⟩, .string ⟨#[]⟩]) M4.out 0 (.int .i64 (n : Int)) rfl) 1 (.string p.f1) rfl) 2 (.string p.f2) rfl
   refine bodyPost_ret (results_cell_row rfl _ _ g4 86 #[.int .i64 (n : Int), .string p.f1, .string p.f2] (0, 0) _ rfl hfin Try.underlying86 rfl (by kernel_rfl)) rfl ?_
   rw [HCU.out]
   refine ⟨by rw [HF.out]; rfl, _, _, rd_tail (A := A) (w := w) HR9.out HS9.out HS.out (blk_lt HR.out.blk) M4.out HGg4.out (fun a e => HNA.out a e) _ _ _⟩
  ·have hq0 : (p.f0 - (n : Int) == 0) = false := by by_cases e : p.f0 - (n : Int) = 0; (· exact absurd (by rw [HQ.out]; simp [zeroP, e, y1, y2]) hz); (· simpa using e)
   have HCU : Aside0 (cutL p xs n = (⟨p.f0 - (n : Int), p.f1, p.f2⟩ : Part) :: xs) := ⟨by unfold cutL; rw [if_neg hz, HQ.out]⟩
   go_upto_region 10 with fail
   clear e70 e71 e72
   have hcap := HR8.out.cap
   simp only [List.length_cons] at hcap
   have h1le : (1 : Int) ≤ (xs.length : Int) + 1 := by omega
   obtain ⟨hC1, hC2, hC3⟩ := rd_rest HR8.out
   obtain ⟨ad2, had2⟩ : ∃ ad2, (if c = 1 then A else A.map (·.add 3)) = some ad2 := by obtain ⟨b', hb3, hlt⟩ := C_addr HR.out.row (by simp); rw [hb3]; by_cases z : c = 1; (· exact ⟨b', by rw [if_pos z]⟩); (· exact ⟨b'.add 3, by rw [if_neg z]; rfl⟩)
   rw [had2] at hC1
   have HC1 := mz hC1
   have HAV := mz had2
   clear hC1 hC2 hC3 had2
   refine wp_region_last_drew (ds := [11]) (S := fun W' => W'.heap[g7]? = some (.cells #[.int .i64 (p.f0 - (n : Int)), .string (p.f1), .string (p.f2)] 86 (0, 0)) ∧ W'.heap[g]? = some (.cells #[.slice A (xs.length + 1) c] 138 (0, 0))) (by kernel_rfl) ⟨N7.out, HR8.out.blk⟩ (fun hH => ?_)
   have F : ∀ W' : World, (W'.heap[g7]? = some (.cells #[.int .i64 (p.f0 - (n : Int)), .string (p.f1), .string (p.f2)] 86 (0, 0)) ∧ W'.heap[g]? = some (.cells #[.slice A (xs.length + 1) c] 138 (0, 0))) → (W'.cell? ⟨g7, 0, none⟩ = some (.int .i64 (p.f0 - (n : Int))) ∧ W'.cell? ⟨g7, 1, none⟩ = some (.string (p.f1)) ∧ W'.cell? ⟨g7, 2, none⟩ = some (.string (p.f2))) ∧ W'.cell? ⟨g, 0, none⟩ = some (.slice A (xs.length + 1) c) := fun W' hb => ⟨cells3 hb.1, (blk_cell hb.2 0).trans rfl⟩
   refine' yT 0 F ?_
   refine' yT 1 F ?_
   refine' yT 3 F ?_
   refine' yT 4 F ?_
   refine' yT 5 F ?_
   refine' yT 6 F ?_
   refine' yT 7 (v := .slice (some ad2) xs.length (c - 1)) F ?_ (hy := by (intro W' hSw; (try dsimp only at hSw); go_simp; rw [show_add, HAV.out]))
   refine' yV 2 (v := .slice (some ⟨w8.heap.size, 0, none⟩) 1 1) (w1 := w8.drew.alloc (.cells (cellsP (⟨p.f0 - (n : Int), p.f1, p.f2⟩ : Part)).toArray 86)) ⟨blk_alloc hH.1 _, blk_alloc hH.2 _⟩ (fun hH2 => ?_)
   obtain ⟨i0, hi, hz0, hz1, hz2⟩ := info_parts info86
   have hbs : base ≤ w8.heap.size := Nat.le_trans HS.out B8.out.size
   refine yA0 8 (.tmp 60) (.tmp 65) 34 base 86 i0 (.agg #[.int .i64 0, .string ⟨#[]⟩, .string ⟨#[]⟩]) 3 40 Try.underlying34 hi hz0 hz1 hz2 rfl (by decide) (.slice (some ⟨w8.heap.size, 0, none⟩) 1 1) 1 (cellsP (⟨p.f0 - (n : Int), p.f1, p.f2⟩ : Part)) (by rfl) (row_one w8.drew base hbs (⟨p.f0 - (n : Int), p.f1, p.f2⟩ : Part)) ad2 xs.length (c - 1) (xs.flatMap cellsP) (by rfl) (flat_length cellsP 3 cellsP_len xs) (clone_cells (Kd.C_below HC1.out (below_alloc (below_drew (Below.refl _ _)) _))) (cells_one xs) (by unfold maxLen; omega) (by omega) (Nat.le_trans hbs (by simp)) ?_
   intro v9 w9 ho hg9 hat
   have AP := mz (cut_app hbs ho hg9 hat (p := (⟨p.f0 - (n : Int), p.f1, p.f2⟩ : Part)))
   have B89 := mz AP.out.1
   have hS9 : w9.heap[g7]? = some (.cells #[.int .i64 (p.f0 - (n : Int)), .string (p.f1), .string (p.f2)] 86 (0, 0)) ∧ w9.heap[g]? = some (.cells #[.slice A (xs.length + 1) c] 138 (0, 0)) := ⟨blk_below N7.out B89.out, blk_below HR8.out.blk B89.out⟩
   obtain ⟨A9, c9, rfl, hC9, hc9, hb9⟩ := AP.out.2
   refine ⟨hS9, ?_⟩
   intro a' ha'
   (try simp only [Act.put, List.getElem_toArray, List.getElem_cons_succ, List.getElem_cons_zero, List.setIfInBounds_toArray, List.set_cons_zero, List.set_cons_succ] at ha')
   subst ha'
   intro hH3
   clear ho hg9 hat hi hz0 hz1 hz2 AP
   refine' yT 9 F ?_
   refine' yT 10 F ?_
   have fz := blk_frozen hH3.2 0
   have cz : w9.cell? ⟨g, 0, none⟩ = some (.slice A (xs.length + 1) c) := (blk_cell hH3.2 0).trans rfl
   refine' yL 11 (w1 := w9.setCell ⟨g, 0, none⟩ (.slice A9 ((⟨p.f0 - (n : Int), p.f1, p.f2⟩ : Part) :: xs).length c9)) ?_
   refine done_ (by kernel_rfl) ?_
   have hgl : g < w8.heap.size := blk_lt HR8.out.blk
   have hg4l : g4 < w8.heap.size := blk_lt N4.out
   have hR9 := (HR8.out.below B89.out).set_ hC9 hc9 (fun _ a e => by have := hb9 a e; omega)
   have ne4 : g4 ≠ g := fun e => by have := blk_lt HR.out.blk; have := HGg4.out; omega
   have ne6 : g6 ≠ g := fun e => by have := blk_lt HR.out.blk; have := G6.out; omega
   have M4 := mz (blk_far (p := ⟨g, 0, none⟩) (blk_below N4.out B89.out) ne4 (.slice A9 ((⟨p.f0 - (n : Int), p.f1, p.f2⟩ : Part) :: xs).length c9))
   have M6 := mz (blk_far (p := ⟨g, 0, none⟩) (blk_below N6.out B89.out) ne6 (.slice A9 ((⟨p.f0 - (n : Int), p.f1, p.f2⟩ : Part) :: xs).length c9))
   have HR9 := mz hR9
   have HS9 : Aside0 (RStep base g A A9 w (w9.setCell ⟨g, 0, none⟩ (.slice A9 ((⟨p.f0 - (n : Int), p.f1, p.f2⟩ : Part) :: xs).length c9))) := ⟨⟨((below_step B8.out B89.out).mono HS.out).setCell HGB.out _, Kept.setCell (S := fun k => k = g) (p := ⟨g, 0, none⟩) (Kept.of_below (below_step B8.out B89.out) _) (.inl rfl) _, fun a e => .inr (Nat.le_trans B8.out.size (hb9 a e))⟩⟩
   have HNA : Aside0 (∀ a, A9 = some a → a.block ≠ g4) := ⟨fun a e => by have := hb9 a e; omega⟩
   clear hR9 hC9 hc9 hb9 hH hH2 hH3 F fz cz hS9 hgl hg4l
   skip
   generalize w9.setCell ⟨g, 0, none⟩ (.slice A9 ((⟨p.f0 - (n : Int), p.f1, p.f2⟩ : Part) :: xs).length c9) = w10 at M4 M6 HR9 HS9 ⊢
   obtain ⟨u0, u1, u2⟩ := cells3 M6.out
   obtain ⟨t0, t1, t2⟩ := cells3 M4.out
   obtain ⟨t3, t4, t5⟩ := froz3 M4.out
   go_wp2_with fail
   have hfin := blk_put (cs' := #[.int .i64 (n : Int), .string p.f1, .string p.f2]) (blk_put (cs' := #[.int .i64 (n : Int), .string p.f1, .string ⟨#[]⟩]) (blk_put (cs' := #[.int .i64 (n : Int), .string ⟨#[]⟩, .string ⟨#[]⟩]) M4.out 0 (.int .i64 (n : Int)) rfl) 1 (.string p.f1) rfl) 2 (.string p.f2) rfl
   refine bodyPost_ret (results_cell_row rfl _ _ g4 86 #[.int .i64 (n : Int), .string p.f1, .string p.f2] (0, 0) _ rfl hfin Try.underlying86 rfl (by kernel_rfl)) rfl ?_
   rw [HCU.out]
   refine ⟨by rw [HF.out]; rfl, _, _, rd_tail (A := A) (w := w) HR9.out HS9.out HS.out (blk_lt HR.out.blk) M4.out HGg4.out (fun a e => HNA.out a e) _ _ _⟩
 have hk0 : p.f0 = 0 := by have := hp.1; omega
 have hf0 : (p.f0 == 0) = true := by rw [hk0]; rfl
 by_cases hp1 : p.f1.size = 0
 ·have hps : p.f2.size = sizeP p := by simp only [sizeP, hk0, hp1]; simp
  have l_pf1 : p.f1.toList = [] := (toList_nil _).2 hp1
  have m_pf1 : p.f1.toList.isEmpty = true := by rw [l_pf1]; rfl
  have hne1 : ¬ p.f1.size ≠ 0 := fun h => h hp1
  have hF0 : firstP p n = ⟨p.f0, p.f1, p.f2.extract 0 n⟩ := by simp only [firstP, if_neg hk, if_neg hne1]
  have hQ0 : restQ p n = ⟨p.f0, p.f1, p.f2.extract n p.f2.size⟩ := by simp only [restQ, if_neg hk, if_neg hne1]
  have HF := mz hF0
  have HQ := mz hQ0
  clear hF0 hQ0
  have hnn : (n : Int) ≤ (p.f2.size : Int) := by omega
  have hn2 : n ≤ p.f2.size := by omega
  have HK0 := mz hk0
  have HPS := mz hps
  have HO := mz hp1
  clear hk0 hps hp1 hne1
  go_upto_region 3 with fail
  clear s50 s51 s52
  refine wp_region_last_drew (ds := []) (S := fun W' => W'.heap[g5]? = some (.cells #[.int .i64 p.f0, .string p.f1, .string p.f2] 86 (0, 0))) (by kernel_rfl) K5'.out (fun hH => ?_)
  have F : ∀ W' : World, W'.heap[g5]? = some (.cells #[.int .i64 p.f0, .string p.f1, .string p.f2] 86 (0, 0)) → W'.cell? ⟨g5, 0, none⟩ = some (.int .i64 p.f0) ∧ W'.cell? ⟨g5, 1, none⟩ = some (.string p.f1) ∧ W'.cell? ⟨g5, 2, none⟩ = some (.string p.f2) := fun W' hb => cells3 hb
  refine' yT 0 F ?_
  refine' yT 1 F ?_
  refine' yT 2 F ?_
  refine' yT 3 F ?_
  refine' yT 4 F ?_
  refine' yT 5 F ?_
  refine' yT 6 F ?_
  refine' yT 7 F ?_
  refine' yT 8 F ?_
  have e6 : (w7.drew.setCell ⟨g6, 2, none⟩ (.string (p.f2.extract 0 n))).heap[g5]? = some (.cells #[.int .i64 p.f0, .string p.f1, .string p.f2] 86 (0, 0)) := blk_far (p := ⟨g6, 2, none⟩) hH (by have := G6.out.1; show g5 ≠ g6; omega) _
  have e7 : ((w7.drew.setCell ⟨g6, 2, none⟩ (.string (p.f2.extract 0 n))).setCell ⟨g7, 2, none⟩ (.string (p.f2.extract n p.f2.size))).heap[g5]? = some (.cells #[.int .i64 p.f0, .string p.f1, .string p.f2] 86 (0, 0)) := blk_far (p := ⟨g7, 2, none⟩) e6 (by have := G7.out.1; show g5 ≠ g7; omega) _
  have hne := HNE.out
  have q6 := (blk_cell (blk_drew K6.out) 2).trans rfl
  have r6 := blk_frozen (blk_drew K6.out) 2
  have k67 := blk_far (p := ⟨g6, 2, none⟩) (blk_drew K7.out) (Ne.symm hne) (.string (p.f2.extract 0 n))
  have q7 := (blk_cell K7.out 2).trans rfl
  have r7 := blk_frozen K7.out 2
  have hne' := Ne.symm hne
  refine' yM 9 (w1 := w7.drew.setCell ⟨g6, 2, none⟩ (.string (p.f2.extract 0 n))) e6 (fun hS6 => ?_)
  refine' yT 10 F ?_
  refine' yM 11 (w1 := (w7.drew.setCell ⟨g6, 2, none⟩ (.string (p.f2.extract 0 n))).setCell ⟨g7, 2, none⟩ (.string (p.f2.extract n p.f2.size))) e7 (fun hS7 => ?_)
  refine done_ (by kernel_rfl) ?_
  have N6 := mz (blk_far (p := ⟨g7, 2, none⟩) (blk_put (cs' := #[.int .i64 (p.f0), .string (p.f1), .string (p.f2.extract 0 n)]) (blk_drew K6.out) 2 (.string (p.f2.extract 0 n)) rfl) hne (.string (p.f2.extract n p.f2.size)))
  have N7 := mz (blk_put (cs' := #[.int .i64 (p.f0), .string (p.f1), .string (p.f2.extract n p.f2.size)]) k67 2 (.string (p.f2.extract n p.f2.size)) rfl)
  have N4 := mz (blk_far (p := ⟨g7, 2, none⟩) (blk_far (p := ⟨g6, 2, none⟩) (blk_drew K4d.out) (by have := G6.out.2; show g4 ≠ g6; omega) (.string (p.f2.extract 0 n))) (by have := G7.out.2; show g4 ≠ g7; omega) (.string (p.f2.extract n p.f2.size)))
  have B8 := mz (below_set (j := 2) (v := .string (p.f2.extract n p.f2.size)) (below_set (j := 2) (v := .string (p.f2.extract 0 n)) (below_drew B7.out) G6.out.2.2) G7.out.2.2)
  clear hH F e6 e7 q6 r6 k67 q7 r7 hS6 hS7 K6 K7 K4d B7 K5' HR7 hne hne'
  generalize (w7.drew.setCell ⟨g6, 2, none⟩ (.string (p.f2.extract 0 n))).setCell ⟨g7, 2, none⟩ (.string (p.f2.extract n p.f2.size)) = w8 at N6 N7 N4 B8 ⊢
  have HR8 := mz (HR.out.below B8.out)
  obtain ⟨e70, e71, e72⟩ := cells3 N7.out
  by_cases hz : zeroP (restQ p n) = true
  ·have hq0 : (p.f2.extract n p.f2.size).size = 0 := by have h0 := (zeroP_iff _).1 hz; rw [HQ.out] at h0; injection h0 with h0 h1 h2; rw [h2]; rfl
   have l_q : (p.f2.extract n p.f2.size).toList = [] := (toList_nil _).2 hq0
   have m_q : (p.f2.extract n p.f2.size).toList.isEmpty = true := by rw [l_q]; rfl
   have k_q : ((p.f2.extract n p.f2.size).toList == []) = true := by rw [l_q]; rfl
   have HCU : Aside0 (cutL p xs n = xs) := ⟨by unfold cutL; rw [if_pos hz]⟩
   go_upto_region 9 with fail
   clear e70 e71 e72
   obtain ⟨A', c', hA', hc', hR9, hS9⟩ := rd_adv HR8.out base HGB.out
   have c0 : w8.cell? ⟨g, 0, none⟩ = some (.slice A (xs.length + 1) c) := rd_cell HR8.out
   have fz := blk_frozen HR8.out.blk 0
   have ne4 : g4 ≠ g := fun e => by have := blk_lt HR.out.blk; have := HGg4.out; omega
   have ne6 : g6 ≠ g := fun e => by have := blk_lt HR.out.blk; have := G6.out; omega
   have M4 := mz (blk_far (p := ⟨g, 0, none⟩) N4.out ne4 (.slice (if c = 1 then A else A.map (·.add 3)) xs.length (c - 1)))
   have M6 := mz (blk_far (p := ⟨g, 0, none⟩) N6.out ne6 (.slice (if c = 1 then A else A.map (·.add 3)) xs.length (c - 1)))
   have HR9 := mz hR9
   have HS9 := mz ((RStep.of_below (g := g) (A := A) B8.out HS.out).trans hS9)
   have hcap := HR8.out.cap
   simp only [List.length_cons] at hcap
   have HNA : Aside0 (∀ a, A' = some a → a.block ≠ g4) := ⟨fun a e => by rw [hA'] at e; obtain ⟨b, hb2, e2⟩ := (rd_rest HR.out).2.2 a e; obtain ⟨b', hb3, hlt⟩ := C_addr HR.out.row (by simp); rw [hb2] at hb3; injection hb3 with hb3; subst hb3; rw [e2]; have := HGg4.out; omega⟩
   clear hA' hc' hR9 hS9
   obtain ⟨Av, hAv⟩ : ∃ Av, (if c = 1 then A else A.map (·.add 3)) = Av := ⟨_, rfl⟩
   rw [hAv] at M4 M6 HR9 HS9
   have HAV := mz hAv
   clear hAv
   go_upto_region 11 with fail
   have HE : (if c = 1 then A else Option.map (fun x : Addr => (⟨x.block, x.off + 3, none⟩ : Addr)) A) = Av := (show_add c A).trans HAV.out
   rw [HE]
   generalize w8.setCell ⟨g, 0, none⟩ (.slice Av xs.length (c - 1)) = w9 at M4 M6 HR9 HS9 ⊢
   clear c0 fz HE
   obtain ⟨u0, u1, u2⟩ := cells3 M6.out
   obtain ⟨t0, t1, t2⟩ := cells3 M4.out
   obtain ⟨t3, t4, t5⟩ := froz3 M4.out
   go_wp2_with fail
   have hfin := blk_put (cs' := #[.int .i64 (p.f0), .string (p.f1), .string (p.f2.extract 0 n)]) (blk_put (cs' := #[.int .i64 (p.f0), .string (p.f1), .string ⟨#[]⟩]) (blk_put (cs' := #[.int .i64 (p.f0), .string ⟨#[]⟩, .string ⟨#[]⟩]) M4.out 0 (.int .i64 (p.f0)) rfl) 1 (.string (p.f1)) rfl) 2 (.string (p.f2.extract 0 n)) rfl
   refine bodyPost_ret (results_cell_row rfl _ _ g4 86 #[.int .i64 (p.f0), .string (p.f1), .string (p.f2.extract 0 n)] (0, 0) _ rfl hfin Try.underlying86 rfl (by kernel_rfl)) rfl ?_
   rw [HCU.out]
   refine ⟨by rw [HF.out]; rfl, _, _, rd_tail (A := A) (w := w) HR9.out HS9.out HS.out (blk_lt HR.out.blk) M4.out HGg4.out (fun a e => HNA.out a e) _ _ _⟩
  ·have hq0 : (p.f2.extract n p.f2.size).size ≠ 0 := fun e => hz (by rw [HQ.out]; unfold zeroP; rw [HK0.out]; simp only [e, HO.out]; decide)
   have l_q : ¬ ((p.f2.extract n p.f2.size).toList = []) := fun e => hq0 ((toList_nil _).1 e)
   have m_q : (p.f2.extract n p.f2.size).toList.isEmpty = false := by cases hh : (p.f2.extract n p.f2.size).toList with | nil => exact absurd hh l_q | cons _ _ => rfl
   have k_q : ((p.f2.extract n p.f2.size).toList == []) = false := by cases hh : (p.f2.extract n p.f2.size).toList with | nil => exact absurd hh l_q | cons _ _ => rfl
   have HCU : Aside0 (cutL p xs n = (⟨p.f0, p.f1, p.f2.extract n p.f2.size⟩ : Part) :: xs) := ⟨by unfold cutL; rw [if_neg hz, HQ.out]⟩
   go_upto_region 10 with fail
   clear e70 e71 e72
   have hcap := HR8.out.cap
   simp only [List.length_cons] at hcap
   have h1le : (1 : Int) ≤ (xs.length : Int) + 1 := by omega
   obtain ⟨hC1, hC2, hC3⟩ := rd_rest HR8.out
   obtain ⟨ad2, had2⟩ : ∃ ad2, (if c = 1 then A else A.map (·.add 3)) = some ad2 := by obtain ⟨b', hb3, hlt⟩ := C_addr HR.out.row (by simp); rw [hb3]; by_cases z : c = 1; (· exact ⟨b', by rw [if_pos z]⟩); (· exact ⟨b'.add 3, by rw [if_neg z]; rfl⟩)
   rw [had2] at hC1
   have HC1 := mz hC1
   have HAV := mz had2
   clear hC1 hC2 hC3 had2
   refine wp_region_last_drew (ds := [11]) (S := fun W' => W'.heap[g7]? = some (.cells #[.int .i64 (p.f0), .string (p.f1), .string (p.f2.extract n p.f2.size)] 86 (0, 0)) ∧ W'.heap[g]? = some (.cells #[.slice A (xs.length + 1) c] 138 (0, 0))) (by kernel_rfl) ⟨N7.out, HR8.out.blk⟩ (fun hH => ?_)
   have F : ∀ W' : World, (W'.heap[g7]? = some (.cells #[.int .i64 (p.f0), .string (p.f1), .string (p.f2.extract n p.f2.size)] 86 (0, 0)) ∧ W'.heap[g]? = some (.cells #[.slice A (xs.length + 1) c] 138 (0, 0))) → (W'.cell? ⟨g7, 0, none⟩ = some (.int .i64 (p.f0)) ∧ W'.cell? ⟨g7, 1, none⟩ = some (.string (p.f1)) ∧ W'.cell? ⟨g7, 2, none⟩ = some (.string (p.f2.extract n p.f2.size))) ∧ W'.cell? ⟨g, 0, none⟩ = some (.slice A (xs.length + 1) c) := fun W' hb => ⟨cells3 hb.1, (blk_cell hb.2 0).trans rfl⟩
   refine' yT 0 F ?_
   refine' yT 1 F ?_
   refine' yT 3 F ?_
   refine' yT 4 F ?_
   refine' yT 5 F ?_
   refine' yT 6 F ?_
   refine' yT 7 (v := .slice (some ad2) xs.length (c - 1)) F ?_ (hy := by (intro W' hSw; (try dsimp only at hSw); go_simp; rw [show_add, HAV.out]))
   refine' yV 2 (v := .slice (some ⟨w8.heap.size, 0, none⟩) 1 1) (w1 := w8.drew.alloc (.cells (cellsP (⟨p.f0, p.f1, p.f2.extract n p.f2.size⟩ : Part)).toArray 86)) ⟨blk_alloc hH.1 _, blk_alloc hH.2 _⟩ (fun hH2 => ?_)
   obtain ⟨i0, hi, hz0, hz1, hz2⟩ := info_parts info86
   have hbs : base ≤ w8.heap.size := Nat.le_trans HS.out B8.out.size
   refine yA0 8 (.tmp 60) (.tmp 65) 34 base 86 i0 (.agg #[.int .i64 0, .string ⟨#[]⟩, .string ⟨#[]⟩]) 3 40 Try.underlying34 hi hz0 hz1 hz2 rfl (by decide) (.slice (some ⟨w8.heap.size, 0, none⟩) 1 1) 1 (cellsP (⟨p.f0, p.f1, p.f2.extract n p.f2.size⟩ : Part)) (by rfl) (row_one w8.drew base hbs (⟨p.f0, p.f1, p.f2.extract n p.f2.size⟩ : Part)) ad2 xs.length (c - 1) (xs.flatMap cellsP) (by rfl) (flat_length cellsP 3 cellsP_len xs) (clone_cells (Kd.C_below HC1.out (below_alloc (below_drew (Below.refl _ _)) _))) (cells_one xs) (by unfold maxLen; omega) (by omega) (Nat.le_trans hbs (by simp)) ?_
   intro v9 w9 ho hg9 hat
   have AP := mz (cut_app hbs ho hg9 hat (p := (⟨p.f0, p.f1, p.f2.extract n p.f2.size⟩ : Part)))
   have B89 := mz AP.out.1
   have hS9 : w9.heap[g7]? = some (.cells #[.int .i64 (p.f0), .string (p.f1), .string (p.f2.extract n p.f2.size)] 86 (0, 0)) ∧ w9.heap[g]? = some (.cells #[.slice A (xs.length + 1) c] 138 (0, 0)) := ⟨blk_below N7.out B89.out, blk_below HR8.out.blk B89.out⟩
   obtain ⟨A9, c9, rfl, hC9, hc9, hb9⟩ := AP.out.2
   refine ⟨hS9, ?_⟩
   intro a' ha'
   (try simp only [Act.put, List.getElem_toArray, List.getElem_cons_succ, List.getElem_cons_zero, List.setIfInBounds_toArray, List.set_cons_zero, List.set_cons_succ] at ha')
   subst ha'
   intro hH3
   clear ho hg9 hat hi hz0 hz1 hz2 AP
   refine' yT 9 F ?_
   refine' yT 10 F ?_
   have fz := blk_frozen hH3.2 0
   have cz : w9.cell? ⟨g, 0, none⟩ = some (.slice A (xs.length + 1) c) := (blk_cell hH3.2 0).trans rfl
   refine' yL 11 (w1 := w9.setCell ⟨g, 0, none⟩ (.slice A9 ((⟨p.f0, p.f1, p.f2.extract n p.f2.size⟩ : Part) :: xs).length c9)) ?_
   refine done_ (by kernel_rfl) ?_
   have hgl : g < w8.heap.size := blk_lt HR8.out.blk
   have hg4l : g4 < w8.heap.size := blk_lt N4.out
   have hR9 := (HR8.out.below B89.out).set_ hC9 hc9 (fun _ a e => by have := hb9 a e; omega)
   have ne4 : g4 ≠ g := fun e => by have := blk_lt HR.out.blk; have := HGg4.out; omega
   have ne6 : g6 ≠ g := fun e => by have := blk_lt HR.out.blk; have := G6.out; omega
   have M4 := mz (blk_far (p := ⟨g, 0, none⟩) (blk_below N4.out B89.out) ne4 (.slice A9 ((⟨p.f0, p.f1, p.f2.extract n p.f2.size⟩ : Part) :: xs).length c9))
   have M6 := mz (blk_far (p := ⟨g, 0, none⟩) (blk_below N6.out B89.out) ne6 (.slice A9 ((⟨p.f0, p.f1, p.f2.extract n p.f2.size⟩ : Part) :: xs).length c9))
   have HR9 := mz hR9
   have HS9 : Aside0 (RStep base g A A9 w (w9.setCell ⟨g, 0, none⟩ (.slice A9 ((⟨p.f0, p.f1, p.f2.extract n p.f2.size⟩ : Part) :: xs).length c9))) := ⟨⟨((below_step B8.out B89.out).mono HS.out).setCell HGB.out _, Kept.setCell (S := fun k => k = g) (p := ⟨g, 0, none⟩) (Kept.of_below (below_step B8.out B89.out) _) (.inl rfl) _, fun a e => .inr (Nat.le_trans B8.out.size (hb9 a e))⟩⟩
   have HNA : Aside0 (∀ a, A9 = some a → a.block ≠ g4) := ⟨fun a e => by have := hb9 a e; omega⟩
   clear hR9 hC9 hc9 hb9 hH hH2 hH3 F fz cz hS9 hgl hg4l
   skip
   generalize w9.setCell ⟨g, 0, none⟩ (.slice A9 ((⟨p.f0, p.f1, p.f2.extract n p.f2.size⟩ : Part) :: xs).length c9) = w10 at M4 M6 HR9 HS9 ⊢
   obtain ⟨u0, u1, u2⟩ := cells3 M6.out
   obtain ⟨t0, t1, t2⟩ := cells3 M4.out
   obtain ⟨t3, t4, t5⟩ := froz3 M4.out
   go_wp2_with fail
   have hfin := blk_put (cs' := #[.int .i64 (p.f0), .string (p.f1), .string (p.f2.extract 0 n)]) (blk_put (cs' := #[.int .i64 (p.f0), .string (p.f1), .string ⟨#[]⟩]) (blk_put (cs' := #[.int .i64 (p.f0), .string ⟨#[]⟩, .string ⟨#[]⟩]) M4.out 0 (.int .i64 (p.f0)) rfl) 1 (.string (p.f1)) rfl) 2 (.string (p.f2.extract 0 n)) rfl
   refine bodyPost_ret (results_cell_row rfl _ _ g4 86 #[.int .i64 (p.f0), .string (p.f1), .string (p.f2.extract 0 n)] (0, 0) _ rfl hfin Try.underlying86 rfl (by kernel_rfl)) rfl ?_
   rw [HCU.out]
   refine ⟨by rw [HF.out]; rfl, _, _, rd_tail (A := A) (w := w) HR9.out HS9.out HS.out (blk_lt HR.out.blk) M4.out HGg4.out (fun a e => HNA.out a e) _ _ _⟩
 ·have hps : p.f1.size = sizeP p := by have := hp.2.2 hp1; simp only [sizeP, hk0, this]; simp
  have y2 := hp.2.2 hp1
  have l_pf2 : p.f2.toList = [] := (toList_nil _).2 y2
  have m_pf2 : p.f2.toList.isEmpty = true := by rw [l_pf2]; rfl
  have l_p1 : ¬ (p.f1.toList = []) := fun e => hp1 ((toList_nil _).1 e)
  have m_p1 : p.f1.toList.isEmpty = false := by cases hh : p.f1.toList with | nil => exact absurd hh l_p1 | cons _ _ => rfl
  have hpp : p.f1.size ≠ 0 := hp1
  have hF0 : firstP p n = ⟨p.f0, p.f1.extract 0 n, p.f2⟩ := by simp only [firstP, if_neg hk, if_pos hpp]
  have hQ0 : restQ p n = ⟨p.f0, p.f1.extract n p.f1.size, p.f2⟩ := by simp only [restQ, if_neg hk, if_pos hpp]
  have HF := mz hF0
  have HQ := mz hQ0
  clear hF0 hQ0
  have hnn : (n : Int) ≤ (p.f1.size : Int) := by omega
  have hn2 : n ≤ p.f1.size := by omega
  have HK0 := mz hk0
  have HPS := mz hps
  have HO := mz y2
  clear hk0 hps y2
  go_upto_region 7 with fail
  clear s50 s51 s52
  refine wp_region_last_drew (ds := []) (S := fun W' => W'.heap[g5]? = some (.cells #[.int .i64 p.f0, .string p.f1, .string p.f2] 86 (0, 0))) (by kernel_rfl) K5'.out (fun hH => ?_)
  have F : ∀ W' : World, W'.heap[g5]? = some (.cells #[.int .i64 p.f0, .string p.f1, .string p.f2] 86 (0, 0)) → W'.cell? ⟨g5, 0, none⟩ = some (.int .i64 p.f0) ∧ W'.cell? ⟨g5, 1, none⟩ = some (.string p.f1) ∧ W'.cell? ⟨g5, 2, none⟩ = some (.string p.f2) := fun W' hb => cells3 hb
  refine' yT 0 F ?_
  refine' yT 1 F ?_
  refine' yT 2 F ?_
  refine' yT 3 F ?_
  refine' yT 4 F ?_
  refine' yT 5 F ?_
  refine' yT 6 F ?_
  refine' yT 7 F ?_
  refine' yT 8 F ?_
  have e6 : (w7.drew.setCell ⟨g6, 1, none⟩ (.string (p.f1.extract 0 n))).heap[g5]? = some (.cells #[.int .i64 p.f0, .string p.f1, .string p.f2] 86 (0, 0)) := blk_far (p := ⟨g6, 1, none⟩) hH (by have := G6.out.1; show g5 ≠ g6; omega) _
  have e7 : ((w7.drew.setCell ⟨g6, 1, none⟩ (.string (p.f1.extract 0 n))).setCell ⟨g7, 1, none⟩ (.string (p.f1.extract n p.f1.size))).heap[g5]? = some (.cells #[.int .i64 p.f0, .string p.f1, .string p.f2] 86 (0, 0)) := blk_far (p := ⟨g7, 1, none⟩) e6 (by have := G7.out.1; show g5 ≠ g7; omega) _
  have hne := HNE.out
  have q6 := (blk_cell (blk_drew K6.out) 1).trans rfl
  have r6 := blk_frozen (blk_drew K6.out) 1
  have k67 := blk_far (p := ⟨g6, 1, none⟩) (blk_drew K7.out) (Ne.symm hne) (.string (p.f1.extract 0 n))
  have q7 := (blk_cell K7.out 1).trans rfl
  have r7 := blk_frozen K7.out 1
  have hne' := Ne.symm hne
  refine' yM 9 (w1 := w7.drew.setCell ⟨g6, 1, none⟩ (.string (p.f1.extract 0 n))) e6 (fun hS6 => ?_)
  refine' yT 10 F ?_
  refine' yM 11 (w1 := (w7.drew.setCell ⟨g6, 1, none⟩ (.string (p.f1.extract 0 n))).setCell ⟨g7, 1, none⟩ (.string (p.f1.extract n p.f1.size))) e7 (fun hS7 => ?_)
  refine done_ (by kernel_rfl) ?_
  have N6 := mz (blk_far (p := ⟨g7, 1, none⟩) (blk_put (cs' := #[.int .i64 (p.f0), .string (p.f1.extract 0 n), .string (p.f2)]) (blk_drew K6.out) 1 (.string (p.f1.extract 0 n)) rfl) hne (.string (p.f1.extract n p.f1.size)))
  have N7 := mz (blk_put (cs' := #[.int .i64 (p.f0), .string (p.f1.extract n p.f1.size), .string (p.f2)]) k67 1 (.string (p.f1.extract n p.f1.size)) rfl)
  have N4 := mz (blk_far (p := ⟨g7, 1, none⟩) (blk_far (p := ⟨g6, 1, none⟩) (blk_drew K4d.out) (by have := G6.out.2; show g4 ≠ g6; omega) (.string (p.f1.extract 0 n))) (by have := G7.out.2; show g4 ≠ g7; omega) (.string (p.f1.extract n p.f1.size)))
  have B8 := mz (below_set (j := 1) (v := .string (p.f1.extract n p.f1.size)) (below_set (j := 1) (v := .string (p.f1.extract 0 n)) (below_drew B7.out) G6.out.2.2) G7.out.2.2)
  clear hH F e6 e7 q6 r6 k67 q7 r7 hS6 hS7 K6 K7 K4d B7 K5' HR7 hne hne'
  generalize (w7.drew.setCell ⟨g6, 1, none⟩ (.string (p.f1.extract 0 n))).setCell ⟨g7, 1, none⟩ (.string (p.f1.extract n p.f1.size)) = w8 at N6 N7 N4 B8 ⊢
  have HR8 := mz (HR.out.below B8.out)
  obtain ⟨e70, e71, e72⟩ := cells3 N7.out
  by_cases hz : zeroP (restQ p n) = true
  ·have hq0 : (p.f1.extract n p.f1.size).size = 0 := by have h0 := (zeroP_iff _).1 hz; rw [HQ.out] at h0; injection h0 with h0 h1 h2; rw [h1]; rfl
   have l_q : (p.f1.extract n p.f1.size).toList = [] := (toList_nil _).2 hq0
   have m_q : (p.f1.extract n p.f1.size).toList.isEmpty = true := by rw [l_q]; rfl
   have k_q : ((p.f1.extract n p.f1.size).toList == []) = true := by rw [l_q]; rfl
   have HCU : Aside0 (cutL p xs n = xs) := ⟨by unfold cutL; rw [if_pos hz]⟩
   go_upto_region 9 with fail
   clear e70 e71 e72
   obtain ⟨A', c', hA', hc', hR9, hS9⟩ := rd_adv HR8.out base HGB.out
   have c0 : w8.cell? ⟨g, 0, none⟩ = some (.slice A (xs.length + 1) c) := rd_cell HR8.out
   have fz := blk_frozen HR8.out.blk 0
   have ne4 : g4 ≠ g := fun e => by have := blk_lt HR.out.blk; have := HGg4.out; omega
   have ne6 : g6 ≠ g := fun e => by have := blk_lt HR.out.blk; have := G6.out; omega
   have M4 := mz (blk_far (p := ⟨g, 0, none⟩) N4.out ne4 (.slice (if c = 1 then A else A.map (·.add 3)) xs.length (c - 1)))
   have M6 := mz (blk_far (p := ⟨g, 0, none⟩) N6.out ne6 (.slice (if c = 1 then A else A.map (·.add 3)) xs.length (c - 1)))
   have HR9 := mz hR9
   have HS9 := mz ((RStep.of_below (g := g) (A := A) B8.out HS.out).trans hS9)
   have hcap := HR8.out.cap
   simp only [List.length_cons] at hcap
   have HNA : Aside0 (∀ a, A' = some a → a.block ≠ g4) := ⟨fun a e => by rw [hA'] at e; obtain ⟨b, hb2, e2⟩ := (rd_rest HR.out).2.2 a e; obtain ⟨b', hb3, hlt⟩ := C_addr HR.out.row (by simp); rw [hb2] at hb3; injection hb3 with hb3; subst hb3; rw [e2]; have := HGg4.out; omega⟩
   clear hA' hc' hR9 hS9
   obtain ⟨Av, hAv⟩ : ∃ Av, (if c = 1 then A else A.map (·.add 3)) = Av := ⟨_, rfl⟩
   rw [hAv] at M4 M6 HR9 HS9
   have HAV := mz hAv
   clear hAv
   go_upto_region 11 with fail
   have HE : (if c = 1 then A else Option.map (fun x : Addr => (⟨x.block, x.off + 3, none⟩ : Addr)) A) = Av := (show_add c A).trans HAV.out
   rw [HE]
   generalize w8.setCell ⟨g, 0, none⟩ (.slice Av xs.length (c - 1)) = w9 at M4 M6 HR9 HS9 ⊢
   clear c0 fz HE
   obtain ⟨u0, u1, u2⟩ := cells3 M6.out
   obtain ⟨t0, t1, t2⟩ := cells3 M4.out
   obtain ⟨t3, t4, t5⟩ := froz3 M4.out
   go_wp2_with fail
   have hfin := blk_put (cs' := #[.int .i64 (p.f0), .string (p.f1.extract 0 n), .string (p.f2)]) (blk_put (cs' := #[.int .i64 (p.f0), .string (p.f1.extract 0 n), .string ⟨#[]⟩]) (blk_put (cs' := #[.int .i64 (p.f0), .string ⟨#[]⟩, .string ⟨#[]⟩]) M4.out 0 (.int .i64 (p.f0)) rfl) 1 (.string (p.f1.extract 0 n)) rfl) 2 (.string (p.f2)) rfl
   refine bodyPost_ret (results_cell_row rfl _ _ g4 86 #[.int .i64 (p.f0), .string (p.f1.extract 0 n), .string (p.f2)] (0, 0) _ rfl hfin Try.underlying86 rfl (by kernel_rfl)) rfl ?_
   rw [HCU.out]
   refine ⟨by rw [HF.out]; rfl, _, _, rd_tail (A := A) (w := w) HR9.out HS9.out HS.out (blk_lt HR.out.blk) M4.out HGg4.out (fun a e => HNA.out a e) _ _ _⟩
  ·have hq0 : (p.f1.extract n p.f1.size).size ≠ 0 := fun e => hz (by rw [HQ.out]; unfold zeroP; rw [HK0.out]; simp only [e, HO.out]; decide)
   have l_q : ¬ ((p.f1.extract n p.f1.size).toList = []) := fun e => hq0 ((toList_nil _).1 e)
   have m_q : (p.f1.extract n p.f1.size).toList.isEmpty = false := by cases hh : (p.f1.extract n p.f1.size).toList with | nil => exact absurd hh l_q | cons _ _ => rfl
   have k_q : ((p.f1.extract n p.f1.size).toList == []) = false := by cases hh : (p.f1.extract n p.f1.size).toList with | nil => exact absurd hh l_q | cons _ _ => rfl
   have HCU : Aside0 (cutL p xs n = (⟨p.f0, p.f1.extract n p.f1.size, p.f2⟩ : Part) :: xs) := ⟨by unfold cutL; rw [if_neg hz, HQ.out]⟩
   go_upto_region 10 with fail
   clear e70 e71 e72
   have hcap := HR8.out.cap
   simp only [List.length_cons] at hcap
   have h1le : (1 : Int) ≤ (xs.length : Int) + 1 := by omega
   obtain ⟨hC1, hC2, hC3⟩ := rd_rest HR8.out
   obtain ⟨ad2, had2⟩ : ∃ ad2, (if c = 1 then A else A.map (·.add 3)) = some ad2 := by obtain ⟨b', hb3, hlt⟩ := C_addr HR.out.row (by simp); rw [hb3]; by_cases z : c = 1; (· exact ⟨b', by rw [if_pos z]⟩); (· exact ⟨b'.add 3, by rw [if_neg z]; rfl⟩)
   rw [had2] at hC1
   have HC1 := mz hC1
   have HAV := mz had2
   clear hC1 hC2 hC3 had2
   refine wp_region_last_drew (ds := [11]) (S := fun W' => W'.heap[g7]? = some (.cells #[.int .i64 (p.f0), .string (p.f1.extract n p.f1.size), .string (p.f2)] 86 (0, 0)) ∧ W'.heap[g]? = some (.cells #[.slice A (xs.length + 1) c] 138 (0, 0))) (by kernel_rfl) ⟨N7.out, HR8.out.blk⟩ (fun hH => ?_)
   have F : ∀ W' : World, (W'.heap[g7]? = some (.cells #[.int .i64 (p.f0), .string (p.f1.extract n p.f1.size), .string (p.f2)] 86 (0, 0)) ∧ W'.heap[g]? = some (.cells #[.slice A (xs.length + 1) c] 138 (0, 0))) → (W'.cell? ⟨g7, 0, none⟩ = some (.int .i64 (p.f0)) ∧ W'.cell? ⟨g7, 1, none⟩ = some (.string (p.f1.extract n p.f1.size)) ∧ W'.cell? ⟨g7, 2, none⟩ = some (.string (p.f2))) ∧ W'.cell? ⟨g, 0, none⟩ = some (.slice A (xs.length + 1) c) := fun W' hb => ⟨cells3 hb.1, (blk_cell hb.2 0).trans rfl⟩
   refine' yT 0 F ?_
   refine' yT 1 F ?_
   refine' yT 3 F ?_
   refine' yT 4 F ?_
   refine' yT 5 F ?_
   refine' yT 6 F ?_
   refine' yT 7 (v := .slice (some ad2) xs.length (c - 1)) F ?_ (hy := by (intro W' hSw; (try dsimp only at hSw); go_simp; rw [show_add, HAV.out]))
   refine' yV 2 (v := .slice (some ⟨w8.heap.size, 0, none⟩) 1 1) (w1 := w8.drew.alloc (.cells (cellsP (⟨p.f0, p.f1.extract n p.f1.size, p.f2⟩ : Part)).toArray 86)) ⟨blk_alloc hH.1 _, blk_alloc hH.2 _⟩ (fun hH2 => ?_)
   obtain ⟨i0, hi, hz0, hz1, hz2⟩ := info_parts info86
   have hbs : base ≤ w8.heap.size := Nat.le_trans HS.out B8.out.size
   refine yA0 8 (.tmp 60) (.tmp 65) 34 base 86 i0 (.agg #[.int .i64 0, .string ⟨#[]⟩, .string ⟨#[]⟩]) 3 40 Try.underlying34 hi hz0 hz1 hz2 rfl (by decide) (.slice (some ⟨w8.heap.size, 0, none⟩) 1 1) 1 (cellsP (⟨p.f0, p.f1.extract n p.f1.size, p.f2⟩ : Part)) (by rfl) (row_one w8.drew base hbs (⟨p.f0, p.f1.extract n p.f1.size, p.f2⟩ : Part)) ad2 xs.length (c - 1) (xs.flatMap cellsP) (by rfl) (flat_length cellsP 3 cellsP_len xs) (clone_cells (Kd.C_below HC1.out (below_alloc (below_drew (Below.refl _ _)) _))) (cells_one xs) (by unfold maxLen; omega) (by omega) (Nat.le_trans hbs (by simp)) ?_
   intro v9 w9 ho hg9 hat
   have AP := mz (cut_app hbs ho hg9 hat (p := (⟨p.f0, p.f1.extract n p.f1.size, p.f2⟩ : Part)))
   have B89 := mz AP.out.1
   have hS9 : w9.heap[g7]? = some (.cells #[.int .i64 (p.f0), .string (p.f1.extract n p.f1.size), .string (p.f2)] 86 (0, 0)) ∧ w9.heap[g]? = some (.cells #[.slice A (xs.length + 1) c] 138 (0, 0)) := ⟨blk_below N7.out B89.out, blk_below HR8.out.blk B89.out⟩
   obtain ⟨A9, c9, rfl, hC9, hc9, hb9⟩ := AP.out.2
   refine ⟨hS9, ?_⟩
   intro a' ha'
   (try simp only [Act.put, List.getElem_toArray, List.getElem_cons_succ, List.getElem_cons_zero, List.setIfInBounds_toArray, List.set_cons_zero, List.set_cons_succ] at ha')
   subst ha'
   intro hH3
   clear ho hg9 hat hi hz0 hz1 hz2 AP
   refine' yT 9 F ?_
   refine' yT 10 F ?_
   have fz := blk_frozen hH3.2 0
   have cz : w9.cell? ⟨g, 0, none⟩ = some (.slice A (xs.length + 1) c) := (blk_cell hH3.2 0).trans rfl
   refine' yL 11 (w1 := w9.setCell ⟨g, 0, none⟩ (.slice A9 ((⟨p.f0, p.f1.extract n p.f1.size, p.f2⟩ : Part) :: xs).length c9)) ?_
   refine done_ (by kernel_rfl) ?_
   have hgl : g < w8.heap.size := blk_lt HR8.out.blk
   have hg4l : g4 < w8.heap.size := blk_lt N4.out
   have hR9 := (HR8.out.below B89.out).set_ hC9 hc9 (fun _ a e => by have := hb9 a e; omega)
   have ne4 : g4 ≠ g := fun e => by have := blk_lt HR.out.blk; have := HGg4.out; omega
   have ne6 : g6 ≠ g := fun e => by have := blk_lt HR.out.blk; have := G6.out; omega
   have M4 := mz (blk_far (p := ⟨g, 0, none⟩) (blk_below N4.out B89.out) ne4 (.slice A9 ((⟨p.f0, p.f1.extract n p.f1.size, p.f2⟩ : Part) :: xs).length c9))
   have M6 := mz (blk_far (p := ⟨g, 0, none⟩) (blk_below N6.out B89.out) ne6 (.slice A9 ((⟨p.f0, p.f1.extract n p.f1.size, p.f2⟩ : Part) :: xs).length c9))
   have HR9 := mz hR9
   have HS9 : Aside0 (RStep base g A A9 w (w9.setCell ⟨g, 0, none⟩ (.slice A9 ((⟨p.f0, p.f1.extract n p.f1.size, p.f2⟩ : Part) :: xs).length c9))) := ⟨⟨((below_step B8.out B89.out).mono HS.out).setCell HGB.out _, Kept.setCell (S := fun k => k = g) (p := ⟨g, 0, none⟩) (Kept.of_below (below_step B8.out B89.out) _) (.inl rfl) _, fun a e => .inr (Nat.le_trans B8.out.size (hb9 a e))⟩⟩
   have HNA : Aside0 (∀ a, A9 = some a → a.block ≠ g4) := ⟨fun a e => by have := hb9 a e; omega⟩
   clear hR9 hC9 hc9 hb9 hH hH2 hH3 F fz cz hS9 hgl hg4l
   skip
   generalize w9.setCell ⟨g, 0, none⟩ (.slice A9 ((⟨p.f0, p.f1.extract n p.f1.size, p.f2⟩ : Part) :: xs).length c9) = w10 at M4 M6 HR9 HS9 ⊢
   obtain ⟨u0, u1, u2⟩ := cells3 M6.out
   obtain ⟨t0, t1, t2⟩ := cells3 M4.out
   obtain ⟨t3, t4, t5⟩ := froz3 M4.out
   go_wp2_with fail
   have hfin := blk_put (cs' := #[.int .i64 (p.f0), .string (p.f1.extract 0 n), .string (p.f2)]) (blk_put (cs' := #[.int .i64 (p.f0), .string (p.f1.extract 0 n), .string ⟨#[]⟩]) (blk_put (cs' := #[.int .i64 (p.f0), .string ⟨#[]⟩, .string ⟨#[]⟩]) M4.out 0 (.int .i64 (p.f0)) rfl) 1 (.string (p.f1.extract 0 n)) rfl) 2 (.string (p.f2)) rfl
   refine bodyPost_ret (results_cell_row rfl _ _ g4 86 #[.int .i64 (p.f0), .string (p.f1.extract 0 n), .string (p.f2)] (0, 0) _ rfl hfin Try.underlying86 rfl (by kernel_rfl)) rfl ?_
   rw [HCU.out]
   refine ⟨by rw [HF.out]; rfl, _, _, rd_tail (A := A) (w := w) HR9.out HS9.out HS.out (blk_lt HR.out.blk) M4.out HGg4.out (fun a e => HNA.out a e) _ _ _⟩
end
theorem C_maker {W : World} {A : Option Addr} {l : List Part} (h : Kd.C k86 W A l.length l) (hp : 0 < l.length) {base g : Nat} {v : Value} {m : Mk} (hb : IsMk base W g v m) : ∀ a, A = some a → a.block ≠ g := by
 intro a e eg
 obtain ⟨ad, e2, hc⟩ := h.2.2 hp
 rw [e] at e2; injection e2 with e2; subst e2
 obtain ⟨c, hl, hK, hcell⟩ := hc 0 l[0] (List.getElem?_eq_getElem hp)
 have hck := k86_open hK
 have h2 := hcell 0 (.int .i64 l[0].f0) (by rw [hck]; rfl)
 have e2 : (a.add (0 * k86.sz + 0)) = a := by simp [Addr.add]
 rw [e2] at h2
 obtain ⟨A0, c0, hv⟩ := own_slice hb.row
 have hbk := hb.blk
 rw [hv] at hbk
 unfold World.cell? at h2
 rw [eg, hbk] at h2
 simp only at h2
 split at h2
 ·cases h2
 ·rcases hz : a.off with _ | _ | _ | z <;> rw [hz] at h2 <;> simp at h2
def SepR (l : List Part) (A : Option Addr) (v : Value) : Prop := 0 < l.length → ∀ a, A = some a → some a.block ≠ v.ownBlock
theorem SepR.byMk {l : List Part} {A : Option Addr} {v v' : Value} {t : TypeId} {w w' : World} {g c base gm : Nat} (h : SepR l A v) (hr : IsRd t w g A c l) (hs : MStep base gm v v' w w') : SepR l A v' := by
 intro hl a ha e
 rcases hs.own with e2 | ⟨b, e2, hle⟩
 ·exact h hl a ha (e.trans e2)
 ·obtain ⟨a', e3, hlt⟩ := C_addr hr.row hl
  rw [ha] at e3; injection e3 with e3; subst e3
  rw [e2] at e; injection e with e; omega
theorem SepR.byRd {l l' : List Part} {A A' : Option Addr} {v : Value} {w w' : World} {g base gm : Nat} {m : Mk} (h : SepR l A v) (hl0 : 0 < l.length) (hm : IsMk base w gm v m) (hs : RStep base g A A' w w') : SepR l' A' v := by
 intro _ a ha e
 rcases hs.own a ha with ⟨b, hb, e2⟩ | hle
 ·exact h hl0 b hb (by rw [← e2]; exact e)
 ·have := own_lt hm.row a.block e.symm; omega
theorem IsRd.by_mk {t : TypeId} {w w' : World} {g c base gm : Nat} {A : Option Addr} {l : List Part} {v v' : Value} {m : Mk} (h : IsRd t w g A c l) (ht : t ≠ 132) (hm : IsMk base w gm v m) (hs : MStep base gm v v' w w') (hS : SepR l A v) (htp : t ≠ 86) : IsRd t w' g A c l := by
 refine h.kept hs.kept ?_ (fun hl a ha => ?_)
 ·rintro (e | e)
  ·exact blk_ne h.blk hm.blk ht e
  ·exact own_ne hm.row h.blk (Ne.symm htp) e
 ·rintro (e | e)
  ·exact C_maker h.row hl hm a ha e
  ·exact hS hl a ha e
theorem IsMk.by_rd {t : TypeId} {w w' : World} {g c base gm : Nat} {A : Option Addr} {l : List Part} {v : Value} {m : Mk} (hm : IsMk base w gm v m) (ht : t ≠ 132) (h : IsRd t w g A c l) (htp : t ≠ 86) (hk : Kept w w' (fun k => k = g)) : IsMk base w' gm v m :=
 ⟨(hk.2 gm (blk_lt hm.blk) (fun e => blk_ne h.blk hm.blk ht e.symm)).trans hm.blk, hm.ge, own_move hm.row (fun k hk2 => hk.2 k (own_lt hm.row k hk2) (fun e => own_ne hm.row h.blk (Ne.symm htp) (by rw [hk2, e])))⟩
theorem IsRd.by_rd {t t' : TypeId} {w w' : World} {g g' c c' : Nat} {A A' : Option Addr} {l l' : List Part} (h : IsRd t w g A c l) (h' : IsRd t' w g' A' c' l') (hne : g ≠ g') (hk : Kept w w' (fun k => k = g')) : IsRd t w' g A c l :=
 h.kept hk hne (fun hl a ha => C_typed h.row hl h'.blk a ha)

structure St3 (t : TypeId) (base : Nat) (w : World) (g1 g2 g3 : Nat) (A1 : Option Addr) (c1 : Nat) (xs : List Part) (A2 : Option Addr) (c2 : Nat) (ys : List Part) (v : Value) (m : Mk) : Prop where
 r1 : IsRd t w g1 A1 c1 xs
 r2 : IsRd t w g2 A2 c2 ys
 mkr : IsMk base w g3 v m
 s1 : SepR xs A1 v
 s2 : SepR ys A2 v
 ne : g1 ≠ g2
 le : base ≤ g1 ∧ base ≤ g2
section
variable {t : TypeId} {base g1 g2 g3 c1 c2 : Nat} {w w' : World} {A1 A2 : Option Addr} {xs ys l' : List Part} {v : Value} {m m' : Mk} (ht : t ≠ 132) (htp : t ≠ 86)
theorem St3.below (h : St3 t base w g1 g2 g3 A1 c1 xs A2 c2 ys v m) (hb : Below w.heap.size w w') : St3 t base w' g1 g2 g3 A1 c1 xs A2 c2 ys v m := ⟨h.r1.below hb, h.r2.below hb, h.mkr.below hb, h.s1, h.s2, h.ne, h.le⟩
theorem St3.kept (h : St3 t base w g1 g2 g3 A1 c1 xs A2 c2 ys v m) {ok : Nat → Prop} (hk : Kept w w' ok) (hg : ¬ ok g1 ∧ ¬ ok g2 ∧ ¬ ok g3) (h1 : 0 < xs.length → ∀ a, A1 = some a → ¬ ok a.block) (h2 : 0 < ys.length → ∀ a, A2 = some a → ¬ ok a.block) (hv : ∀ k, v.ownBlock = some k → ¬ ok k) : St3 t base w' g1 g2 g3 A1 c1 xs A2 c2 ys v m :=
 ⟨h.r1.kept hk hg.1 h1, h.r2.kept hk hg.2.1 h2, ⟨(hk.2 g3 (blk_lt h.mkr.blk) hg.2.2).trans h.mkr.blk, h.mkr.ge, own_move h.mkr.row (fun k hk2 => hk.2 k (own_lt h.mkr.row k hk2) (hv k hk2))⟩, h.s1, h.s2, h.ne, h.le⟩
include ht htp in
theorem St3.rd1 (h : St3 t base w g1 g2 g3 A1 c1 xs A2 c2 ys v m) (h0 : 0 < xs.length) (hP : RdPost t base g1 A1 l' w w') : Below base w w' ∧ Kept w w' (fun k => k = g1) ∧ ∃ A' c', (∀ a', A' = some a' → (∃ a, A1 = some a ∧ a'.block = a.block) ∨ w.heap.size ≤ a'.block) ∧ St3 t base w' g1 g2 g3 A' c' l' A2 c2 ys v m := by
 obtain ⟨A', c', hr, hs⟩ := hP
 exact ⟨hs.below, hs.kept, A', c', hs.own, hr, h.r2.by_rd h.r1 (Ne.symm h.ne) hs.kept, h.mkr.by_rd ht h.r1 htp hs.kept, h.s1.byRd h0 h.mkr hs, h.s2, h.ne, h.le⟩
include ht htp in
theorem St3.rd2 (h : St3 t base w g1 g2 g3 A1 c1 xs A2 c2 ys v m) (h0 : 0 < ys.length) (hP : RdPost t base g2 A2 l' w w') : Below base w w' ∧ Kept w w' (fun k => k = g2) ∧ ∃ A' c', (∀ a', A' = some a' → (∃ a, A2 = some a ∧ a'.block = a.block) ∨ w.heap.size ≤ a'.block) ∧ St3 t base w' g1 g2 g3 A1 c1 xs A' c' l' v m := by
 obtain ⟨A', c', hr, hs⟩ := hP
 exact ⟨hs.below, hs.kept, A', c', hs.own, h.r1.by_rd h.r2 h.ne hs.kept, hr, h.mkr.by_rd ht h.r2 htp hs.kept, h.s1, h.s2.byRd h0 h.mkr hs, h.ne, h.le⟩
include ht htp in
theorem St3.take (h : St3 t base w g1 g2 g3 A1 c1 xs A2 c2 ys v m) (hP : MkPost base g3 v w m' w') : Below base w w' ∧ ∃ v', St3 t base w' g1 g2 g3 A1 c1 xs A2 c2 ys v' m' := by
 obtain ⟨v', hm, hs⟩ := hP
 exact ⟨hs.below, v', h.r1.by_mk ht h.mkr hs h.s1 htp, h.r2.by_mk ht h.mkr hs h.s2 htp, hm, h.s1.byMk h.r1 hs, h.s2.byMk h.r2 hs, h.ne, h.le⟩
end
def okP (p : Part) : Prop := fullP p ∧ smallQ 300 p
def leftN (xs ys : List Part) : Nat := (unitsL xs).length + (unitsL ys).length
theorem unitsL_len_cons (p : Part) (l : List Part) : (unitsL (p :: l)).length = sizeP p + (unitsL l).length := by rw [unitsL_cons, List.length_append, unitsP_length]
theorem len_le_units (l : List Part) (h : ∀ p ∈ l, okP p) : l.length ≤ (unitsL l).length := by
 induction l with
 | nil => exact Nat.le_refl _
 | cons p l ih =>
  have := (h p List.mem_cons_self).1.2
  have := ih (fun q hq => h q (List.mem_cons_of_mem _ hq))
  rw [unitsL_len_cons, List.length_cons]; omega
structure CompI (R : Option Mk) (xs ys : List Part) (m : Mk) : Prop where
 val : compU (unitsL xs) (unitsL ys) m = R
 fx : ∀ p ∈ xs, okP p
 fy : ∀ p ∈ ys, okP p
 eq : makesU (unitsL xs) = takesU (unitsL ys)
 tot : leftN xs ys ≤ 1300
 bnd : BndM m (400 * (1300 - leftN xs ys))
theorem smallQ_first {p : Part} {C : Nat} (n : Nat) (h : smallQ C p) (hn : n ≤ C) : smallQ C (firstP p n) := by
 obtain ⟨a, b, c, d⟩ := h
 unfold firstP
 split
 ·exact ⟨(by simp only; omega), (by simp only; omega), c, d⟩
 ·split
  ·exact ⟨a, b, (by simp; omega), d⟩
  ·exact ⟨a, b, c, (by simp; omega)⟩
theorem smallQ_rest {p : Part} {C : Nat} (n : Nat) (h : smallQ C p) (hn : n ≤ sizeP p) (hp : pureP p) : smallQ C (restQ p n) := by
 obtain ⟨a, b, c, d⟩ := h
 unfold restQ
 by_cases k : 0 < p.f0
 ·rw [if_pos k]
  have e := hp.2.1 (by omega)
  simp only [sizeP] at hn
  exact ⟨(by simp only; omega), (by simp only; omega), c, d⟩
 ·rw [if_neg k]
  split
  ·exact ⟨a, b, (by simp; omega), d⟩
  ·exact ⟨a, b, c, (by simp; omega)⟩
theorem ok_cutL {p : Part} {xs : List Part} (n : Nat) (hp : okP p) (hn : n ≤ sizeP p) (hx : ∀ q ∈ xs, okP q) : ∀ q ∈ cutL p xs n, okP q := by
 intro q hq
 refine ⟨full_cutL n hp.1.1 hn (fun q h => (hx q h).1) q hq, ?_⟩
 unfold cutL at hq
 by_cases z : zeroP (restQ p n) = true
 ·rw [if_pos z] at hq; exact (hx q hq).2
 ·rw [if_neg z] at hq
  rcases List.mem_cons.1 hq with rfl | hq
  ·exact smallQ_rest n hp.2 hn hp.1.1
  ·exact (hx q hq).2
theorem firstP_size {p : Part} (n : Nat) (hp : fullP p) (hn : n ≤ sizeP p) : sizeP (firstP p n) = n := by
 obtain ⟨hp, hs⟩ := hp
 by_cases a : 0 < p.f0
 ·rw [first_keep a hp]; simp [sizeP, noB_size]
 ·have z : p.f0 = 0 := by have := hp.1; omega
  by_cases b : p.f1.size = 0
  ·have c : p.f2.size ≠ 0 := by simp only [sizeP] at hs; omega
   rw [first_drop hp c]
   simp only [sizeP, z, b] at hn
   simp [sizeP, noB_size]; omega
  ·rw [first_put hp b]
   have := hp.2.2 b
   simp only [sizeP, z, this] at hn
   simp [sizeP, noB_size]; omega
theorem cutL_len {p : Part} {xs : List Part} (n : Nat) (hp : fullP p) (hn : n ≤ sizeP p) : (unitsL (p :: xs)).length = n + (unitsL (cutL p xs n)).length := by
 rw [units_cutL p xs n hp.1 hn, List.length_append, unitsP_length, firstP_size n hp hn]
theorem okP.le {p : Part} (h : okP p) : sizeP p ≤ 300 := by
 obtain ⟨⟨⟨p0, p1, p2⟩, _⟩, _, a, b, c⟩ := h
 unfold sizeP
 by_cases z : p.f0 = 0
 ·by_cases y : p.f1.size = 0
  ·omega
  ·have := p2 y; omega
 ·have := p1 z; omega
section
variable {R : Option Mk} {xs ys : List Part} {p q : Part} {m : Mk}
theorem CompI.drop (h : CompI R (p :: xs) ys m) (hd : p.f2.size ≠ 0) : CompI R xs ys (takeM m p) ∧ leftN xs ys + 1 ≤ leftN (p :: xs) ys := by
 have hp := h.fx p List.mem_cons_self
 have hl : leftN (p :: xs) ys = sizeP p + leftN xs ys := by unfold leftN; rw [unitsL_len_cons]; omega
 have h1 := hp.1.2
 have ht := h.tot
 refine ⟨⟨by rw [← comp_drop hp.1.1 hd]; exact h.val, fun q hq => h.fx q (List.mem_cons_of_mem _ hq), h.fy, ?_, by omega, (h.bnd.take p (hp.2.mono (C' := 400) (by omega)) (by omega)).mono (by omega)⟩, by omega⟩
 have e := h.eq
 rw [unitsL_cons, makesU_app, makesU_part, pure_drop hp.1.1 hd] at e
 simpa [noB_size] using e
theorem CompI.put (h : CompI R xs (q :: ys) m) (hd : q.f1.size ≠ 0) : CompI R xs ys (takeM m q) ∧ leftN xs ys + 1 ≤ leftN xs (q :: ys) := by
 have hp := h.fy q List.mem_cons_self
 have hl : leftN xs (q :: ys) = sizeP q + leftN xs ys := by unfold leftN; rw [unitsL_len_cons]; omega
 have h1 := hp.1.2
 have ht := h.tot
 refine ⟨⟨by rw [← comp_put hp.1.1 hd]; exact h.val, h.fx, fun x hq => h.fy x (List.mem_cons_of_mem _ hq), ?_, by omega, (h.bnd.take q (hp.2.mono (C' := 400) (by omega)) (by omega)).mono (by omega)⟩, by omega⟩
 have e := h.eq
 rw [unitsL_cons q, takesU_app, takesU_part, pure_put hp.1.1 hd] at e
 simpa [noB_size] using e
theorem CompI.noY (h : CompI R (p :: xs) [] m) : p.f2.size ≠ 0 := by
 intro z
 have hp := h.fx p List.mem_cons_self
 have e := h.eq
 have := hp.1.2
 rw [unitsL_cons, makesU_app, makesU_part, show unitsL [] = [] from rfl, show takesU [] = 0 from rfl] at e
 simp only [sizeP] at this
 omega
theorem CompI.noX (h : CompI R [] (q :: ys) m) : q.f1.size ≠ 0 := by
 intro z
 have hp := h.fy q List.mem_cons_self
 have e := h.eq
 have := hp.1.2
 rw [unitsL_cons, takesU_app, takesU_part, show unitsL [] = [] from rfl, show makesU [] = 0 from rfl] at e
 simp only [sizeP] at this
 omega
theorem CompI.both (h : CompI R (p :: xs) (q :: ys) m) (h1 : p.f2.size = 0) (h2 : q.f1.size = 0) (n : Nat) (hn : n = min (sizeP p) (sizeP q)) :
  0 < n ∧ n ≤ sizeP p ∧ n ≤ sizeP q ∧ leftN (cutL p xs n) (cutL q ys n) + 1 ≤ leftN (p :: xs) (q :: ys) ∧ okP (firstP p n) ∧ okP (firstP q n) ∧
  (0 < q.f0 → CompI R (cutL p xs n) (cutL q ys n) (takeM m (firstP p n))) ∧
  (¬ 0 < q.f0 → 0 < p.f0 → CompI R (cutL p xs n) (cutL q ys n) (takeM m (firstP q n))) ∧
  (¬ 0 < q.f0 → ¬ 0 < p.f0 → (firstP p n).f1 = (firstP q n).f2 → CompI R (cutL p xs n) (cutL q ys n) m) ∧
  (¬ 0 < q.f0 → ¬ 0 < p.f0 → (firstP p n).f1 ≠ (firstP q n).f2 → R = none) := by
 have hp := h.fx p List.mem_cons_self
 have hq := h.fy q List.mem_cons_self
 have hnp : n ≤ sizeP p := by omega
 have hnq : n ≤ sizeP q := by omega
 have hn0 : 0 < n := by have := hp.1.2; have := hq.1.2; omega
 have l1 := cutL_len (xs := xs) n hp.1 hnp
 have l2 := cutL_len (xs := ys) n hq.1 hnq
 have hl : leftN (p :: xs) (q :: ys) = n + n + leftN (cutL p xs n) (cutL q ys n) := by unfold leftN; omega
 have ht := h.tot
 have hv := comp_both hp.1 hq.1 h1 h2 xs ys m n hnp hnq
 rw [h.val] at hv
 have o1 : okP (firstP p n) := ⟨⟨pure_first n hp.1.1, by rw [firstP_size n hp.1 hnp]; exact hn0⟩, smallQ_first n hp.2 (by have := hp.le; omega)⟩
 have o2 : okP (firstP q n) := ⟨⟨pure_first n hq.1.1, by rw [firstP_size n hq.1 hnq]; exact hn0⟩, smallQ_first n hq.2 (by have := hp.le; omega)⟩
 have fx := ok_cutL (xs := xs) n hp hnp (fun x hx => h.fx x (List.mem_cons_of_mem _ hx))
 have fy := ok_cutL (xs := ys) n hq hnq (fun x hx => h.fy x (List.mem_cons_of_mem _ hx))
 have e : makesU (unitsL (cutL p xs n)) = takesU (unitsL (cutL q ys n)) := by
  have e := h.eq
  rw [units_cutL p xs n hp.1.1 hnp, units_cutL q ys n hq.1.1 hnq, makesU_app, takesU_app, makesU_part, takesU_part] at e
  have e1 := firstP_size n hp.1 hnp
  have e2 := firstP_size n hq.1 hnq
  have z1 : (firstP p n).f2.size = 0 := by
   unfold firstP; split
   ·exact h1
   ·split
    ·exact h1
    ·rw [ba_zero h1]; simp; exact .inr rfl
  have z2 : (firstP q n).f1.size = 0 := by
   unfold firstP; split
   ·exact h2
   ·split
    ·rename_i hh; exact absurd h2 hh
    ·exact h2
  simp only [sizeP] at e1 e2
  omega
 refine ⟨hn0, hnp, hnq, by omega, o1, o2, fun b => ?_, fun b a => ?_, fun b a c => ?_, fun b a c => ?_⟩
 ·rw [if_pos b] at hv
  exact ⟨hv.symm, fx, fy, e, by omega, (h.bnd.take _ (o1.2.mono (C' := 400) (by omega)) (by omega)).mono (by omega)⟩
 ·rw [if_neg b, if_pos a] at hv
  exact ⟨hv.symm, fx, fy, e, by omega, (h.bnd.take _ (o2.2.mono (C' := 400) (by omega)) (by omega)).mono (by omega)⟩
 ·rw [if_neg b, if_neg a, if_pos c] at hv
  exact ⟨hv.symm, fx, fy, e, by omega, h.bnd.mono (by omega)⟩
 ·rw [if_neg b, if_neg a, if_neg c] at hv
  exact hv
end
theorem CompI.done {R : Option Mk} {m : Mk} (h : CompI R [] [] m) : R = some m := by rw [← h.val, comp_done]
section
attribute [local go_sem] max2_int min2_int max_two min_two max_three min_three max_four min_four
def impl_goodOp.f (k : Nat) (l0 : List (S86)) : Option ((List (S86)) × Bool) := (impl_GoodOp.f k l0).bind fun t101 => (if t101 = true then (some (l0, true)) else (some (([] : List (S86)), false)))
set_option maxHeartbeats 8000000 in
set_option maxRecDepth 100000 in
theorem impl_goodOp.calls (k : Nat) (P0_ : Nat → Prop) (u9000_ : Value) (l0 : List (S86)) (r1 : List (S86)) (r2 : Bool) (w0 w : World) (hB : Below w0.heap.size w0 w) (ho0 : Kd.R k86 86 w w0.heap.size P0_ u9000_ l0) (h : impl_goodOp.f k l0 = some (r1, r2)) :
  Calls Try.prog 114 #[u9000_] w fun e w' => ∃ v0_ : Value, e = .returned (.tuple #[v0_, .bool r2]) ∧ Kd.R k86 86 w' w0.heap.size (fun k_ => (P0_ k_ ∨ w.heap.size ≤ k_)) v0_ r1 ∧ Below w0.heap.size w0 w' ∧ Kept w w' (fun k_ => P0_ k_) := by
 have HO0 := mz (show Kd.R k86 86 w w0.heap.size (fun k_ => (P0_ k_ ∨ w.heap.size ≤ k_)) u9000_ l0 from Kd.R_mono ho0 (fun k_ hk => (.inl hk)))
 have HK := mz (Kept.refl w (fun k_ => P0_ k_))
 have HW0 := mz hB.size
 have HB := mz hB
 clear hB
 have H : ((impl_GoodOp.f k l0).bind fun t101 => (if t101 = true then (some (l0, true)) else (some (([] : List (S86)), false)))) = some (r1, r2) := h
 clear h
 replace H := be0_ H
 obtain ⟨t101, A20, H⟩ := H
 replace H : (if t101 = true then (some (l0, true)) else (some (([] : List (S86)), false))) = some (r1, r2) := H
 have A2 := mz A20
 clear A20
 by_cases c3 : t101 = true
 ·subst c3
  have H1 : (some (l0, true)) = some (r1, r2) := by rw [if_pos rfl] at H; exact H
  clear H
  have H := H1
  clear H1
  simp only [Option.some.injEq, Prod.mk.injEq] at H
  obtain ⟨rfl, rfl⟩ := H
  obtain ⟨Ao4, co4, eo4⟩ := Kd.R_slice HO0.out
  subst eo4
  go_enter Try.func114, Try.ntmps114
  go_wp2_with (first | ((with_reducible refine gate_callee (f := 104) rfl ?_); refine goesL_ (some 5) rfl rfl Try.func104 (by kernel_rfl) rfl #[.slice Ao4 l0.length co4] rfl a11_ ?_; (with_reducible refine (impl_GoodOp.calls k _ _ l0 true _ ?side1 ?side2 A2.out).mono ?_); (case side1 => repeat (first | exact (Kd.R_reads' HO0.out).2.2 | (with_reducible refine Kd.C_alloc ?_ _) | (with_reducible refine Kd.C_drewN ?_ _) | (with_reducible refine Kd.C_drew ?_))); (case side2 => exact (Kd.R_reads' HO0.out).2.1); rintro e w5 ⟨rfl, hb⟩; refine ⟨_, rfl, ?_⟩; have n0_ := mz (Kd.R_below a26_ hb); have n1_ := mz (Kept.below (S := (fun k_ => P0_ k_)) a13_ hb); have n2_ := mz (bs0_ hb); clear HO0; clear HK; clear HB; have HO0 := n0_; have HK := n1_; have HB := n2_; clear n0_ n1_ n2_; (try clear hb); (try clear hb2); (try clear hk); (try clear hi)))
  go_ret2
  exact ⟨_, a27_, a26_, a12_, a13_⟩
 ·replace c3 := Bool.eq_false_iff.mpr c3
  subst c3
  have H1 : (some (([] : List (S86)), false)) = some (r1, r2) := by rw [if_neg (show ¬ (false = true) by decide)] at H; exact H
  clear H
  have H := H1
  clear H1
  simp only [Option.some.injEq, Prod.mk.injEq] at H
  obtain ⟨rfl, rfl⟩ := H
  obtain ⟨Ao6, co6, eo6⟩ := Kd.R_slice HO0.out
  subst eo6
  go_enter Try.func114, Try.ntmps114
  go_wp2_with (first | ((with_reducible refine gate_callee (f := 104) rfl ?_); refine goesL_ (some 5) rfl rfl Try.func104 (by kernel_rfl) rfl #[.slice Ao6 l0.length co6] rfl a11_ ?_; (with_reducible refine (impl_GoodOp.calls k _ _ l0 false _ ?side1 ?side2 A2.out).mono ?_); (case side1 => repeat (first | exact (Kd.R_reads' HO0.out).2.2 | (with_reducible refine Kd.C_alloc ?_ _) | (with_reducible refine Kd.C_drewN ?_ _) | (with_reducible refine Kd.C_drew ?_))); (case side2 => exact (Kd.R_reads' HO0.out).2.1); rintro e w7 ⟨rfl, hb⟩; refine ⟨_, rfl, ?_⟩; have n0_ := mz (Kd.R_below a26_ hb); have n1_ := mz (Kept.below (S := (fun k_ => P0_ k_)) a13_ hb); have n2_ := mz (bs0_ hb); clear HO0; clear HK; clear HB; have HO0 := n0_; have HK := n1_; have HB := n2_; clear n0_ n1_ n2_; (try clear hb); (try clear hb2); (try clear hk); (try clear hi)))
  go_ret2
  exact ⟨_, a27_, a10_, a12_, a13_⟩
end
section
attribute [local go_sem] max2_int min2_int max_two min_two max_three min_three max_four min_four
def impl_Part_size.f (a0_0 : Int) (a0_1 : ByteArray) (a0_2 : ByteArray) : Option (Int) := some (wrap64 ((wrap64 (a0_0 + (a0_1.size : Int))) + (a0_2.size : Int)))
set_option maxHeartbeats 8000000 in
set_option maxRecDepth 100000 in
theorem impl_Part_size.calls (a0_0 : Int) (a0_1 : ByteArray) (a0_2 : ByteArray) (r : Int) (w : World) (h : impl_Part_size.f a0_0 a0_1 a0_2 = some r) :
  Calls Try.prog 112 #[.agg #[.int .i64 a0_0, .string a0_1, .string a0_2]] w fun e w' => e = .returned (.int .i64 r) ∧ Below w.heap.size w w' := by
 have hu86 := Try.underlying86
 have HB := mz (Below.refl w.heap.size w)
 have H : (some (wrap64 ((wrap64 (a0_0 + (a0_1.size : Int))) + (a0_2.size : Int)))) = some r := h
 clear h
 obtain rfl := Option.some.inj H
 go_enter Try.func112, Try.ntmps112
 go_wp2_with (first | ((with_reducible refine gate_dst (N := 1) rfl ?_); refine bz_ 1 #[.int .i64 a0_0, .string a0_1, .string a0_2] 86 ?_; intro gb101 hg w2 hbox hb; have n0_ := mz (bs0_ hb); have n1_ := mz (hbox); have n2_ := mz ((by rw [hg]; exact bz1_ : w.heap.size ≤ gb101)); have n3_ := mz ((by rw [hg]; exact bz1_ : w.heap.size ≤ gb101)); clear HB; have HB := n0_; have BK101 := n1_; have GW101 := n2_; have GE101 := n3_; clear n0_ n1_ n2_ n3_; clear hb hbox hg; have hcz3_0 := bk_ BK101.out 0 (.int .i64 a0_0); have hcz3_1 := bk_ BK101.out 1 (.string a0_1); have hcz3_2 := bk_ BK101.out 2 (.string a0_2); have hfz3_0 := blk_frozen BK101.out 0; have hfz3_1 := blk_frozen BK101.out 1; have hfz3_2 := blk_frozen BK101.out 2))
 go_ret
 exact ⟨a27_, a8_⟩
end
theorem full_of_partB {p : Part} (h : partB p = true) : fullP p ∧ smallQ 300 p := by
 obtain ⟨p0, p1, p2, p3, p4, p5, _⟩ := partB_cases h
 refine ⟨⟨⟨p0, fun x => ?_, fun x => ?_⟩, ?_⟩, p0, by omega, p2, p3⟩
 ·have := p4 x; rw [this.1, this.2]; exact ⟨rfl, rfl⟩
 ·rw [p5 x]; rfl
 ·unfold partB at h
  unfold sizeP
  by_cases a : p.f0 = 0
  ·rw [if_pos a] at h
   by_cases b : p.f1.size = 0
   ·rw [if_pos b] at h
    by_cases c : p.f2.size = 0
    ·rw [if_pos c] at h; cases h
    ·omega
   ·omega
  ·omega
theorem units_small (l : List Part) (h : ∀ p ∈ l, fullP p ∧ smallQ 300 p) : (unitsL l).length ≤ takesN l + makesN l := by
 induction l with
 | nil => exact Nat.zero_le _
 | cons p l ih =>
  have := ih (fun q hq => h q (List.mem_cons_of_mem _ hq))
  rw [unitsL_len_cons, takesN_cons, makesN_cons]
  unfold sizeP
  omega
theorem two_boxes {wi wb wc : World} {g13 g14 : Nat} (hb : Below wi.heap.size wi wb) (hc : Below wb.heap.size wb wc) (h13 : g13 = wi.heap.size) (h14 : g14 = wb.heap.size) (k13 : wc.heap[g13]? = some (.cells #[.int .i64 0, .string ⟨#[]⟩, .string ⟨#[]⟩] 86 (0, 0))) (k14 : wc.heap[g14]? = some (.cells #[.int .i64 0, .string ⟨#[]⟩, .string ⟨#[]⟩] 86 (0, 0))) (hne : g13 ≠ g14)
  (a a' : Int) (b c b' c' : ByteArray) : ((((((wc.setCell ⟨g13, 0, none⟩ (.int .i64 a)).setCell ⟨g13, 1, none⟩ (.string b)).setCell ⟨g13, 2, none⟩ (.string c)).setCell ⟨g14, 0, none⟩ (.int .i64 a')).setCell ⟨g14, 1, none⟩ (.string b')).setCell ⟨g14, 2, none⟩ (.string c')).heap[g13]? = some (.cells #[.int .i64 a, .string b, .string c] 86 (0, 0)) ∧ ((((((wc.setCell ⟨g13, 0, none⟩ (.int .i64 a)).setCell ⟨g13, 1, none⟩ (.string b)).setCell ⟨g13, 2, none⟩ (.string c)).setCell ⟨g14, 0, none⟩ (.int .i64 a')).setCell ⟨g14, 1, none⟩ (.string b')).setCell ⟨g14, 2, none⟩ (.string c')).heap[g14]? = some (.cells #[.int .i64 a', .string b', .string c'] 86 (0, 0)) ∧ Below wi.heap.size wi ((((((wc.setCell ⟨g13, 0, none⟩ (.int .i64 a)).setCell ⟨g13, 1, none⟩ (.string b)).setCell ⟨g13, 2, none⟩ (.string c)).setCell ⟨g14, 0, none⟩ (.int .i64 a')).setCell ⟨g14, 1, none⟩ (.string b')).setCell ⟨g14, 2, none⟩ (.string c')) :=
 ⟨farP (fillP k13 rfl _ _ _) hne _ _ _, fillP (farP k14 (Ne.symm hne) _ _ _) rfl _ _ _, belowP (belowP (below_step hb hc) (by omega) _ _ _) (by have := hb.size; omega) _ _ _⟩
theorem implgoodOp_ev (l : List Part) (hs : sizedP l = true) : Ev (fun k => impl_goodOp.f k l) (if opB l = true then (l, true) else ([], false)) := by
 unfold impl_goodOp.f
 refine Ev.bind (implGoodOp_ev l hs) ?_
 cases opB l with
 | true => simp only [if_true]; exact Ev.now _
 | false => simp only [Bool.false_eq_true, if_false]; exact Ev.now _
theorem size_val (p : Part) (h : okP p) : impl_Part_size.f p.f0 p.f1 p.f2 = some (sizeP p : Int) := by
 obtain ⟨h1, h2, h3, h4⟩ := h.2
 unfold impl_Part_size.f sizeP
 rw [w64 (n := p.f0 + (p.f1.size : Int)) (by omega) (by omega), w64 (by omega) (by omega)]
 congr 1; push_cast; omega
theorem first_pos {p : Part} {n : Nat} (hn : 0 < n) (hp : pureP p) : 0 < (firstP p n).f0 ↔ 0 < p.f0 := by
 unfold firstP
 by_cases a : 0 < p.f0
 ·rw [if_pos a]; simp only; omega
 ·rw [if_neg a]; split <;> rfl
theorem clone_val (l : List Part) (h : l.length ≤ 60) : impl_Part_75.f l = some l := by
 unfold impl_Part_75.f
 rw [if_pos (by omega)]
def OwnP (base : Nat) (w : World) (v : Value) (L : List Part) : Prop := w.ownsRow base 86 3 v L.length (L.flatMap cellsP)
structure AStep (base : Nat) (v v' : Value) (w w' : World) : Prop where
 below : Below base w w'
 kept : Kept w w' (fun k => some k = v.ownBlock)
 own : v'.ownBlock = v.ownBlock ∨ ∃ b, v'.ownBlock = some b ∧ w.heap.size ≤ b
def AddPost (base : Nat) (v : Value) (L : List Part) (w w' : World) (v' : Value) : Prop := OwnP base w' v' L ∧ AStep base v v' w w'
theorem AStep.refl (base : Nat) (v : Value) (w : World) : AStep base v v w w := ⟨Below.refl _ _, Kept.refl _ _, .inl rfl⟩
theorem AStep.of_below {base : Nat} {v : Value} {w w' : World} (hb : Below w.heap.size w w') (hs : base ≤ w.heap.size) : AStep base v v w w' := ⟨hb.mono hs, Kept.of_below hb _, .inl rfl⟩
theorem AStep.trans {base : Nat} {v v1 v2 : Value} {w w1 w2 : World} (h : AStep base v v1 w w1) (k : AStep base v1 v2 w1 w2) : AStep base v v2 w w2 := by
 refine ⟨h.1.trans k.1, h.2.then_ k.2 (fun i hi => ?_), ?_⟩
 ·rcases h.3 with e | ⟨b, e, hle⟩
  ·exact .inl (hi.trans e)
  ·rw [e] at hi; injection hi with hi; exact .inr (hi ▸ hle)
 ·rcases k.3 with e | ⟨b, e, hle⟩
  ·rcases h.3 with e2 | ⟨b2, e2, hle2⟩
   ·exact .inl (e.trans e2)
   ·exact .inr ⟨b2, e.trans e2, hle2⟩
  ·exact .inr ⟨b, e, Nat.le_trans h.2.1 hle⟩
theorem OwnP.below {base : Nat} {w w' : World} {v : Value} {L : List Part} (h : OwnP base w v L) (hb : Below w.heap.size w w') : OwnP base w' v L := own_move h (fun k hk => hb.block k (own_lt h k hk))
theorem flat_set (L : List Part) : ∀ (i j : Nat) (hi : i < L.length) (hj : j < 3) (u : Value) (q' : Part), (cellsP L[i]).set j u = cellsP q' → (L.flatMap cellsP).set (i * 3 + j) u = (L.set i q').flatMap cellsP := by
 induction L with
 | nil => intro i j hi; simp at hi
 | cons x L ih =>
  intro i j hi hj u q' h
  cases i with
  | zero =>
   rw [List.flatMap_cons, List.set_append_left _ _ (by rw [cellsP_len]; omega), List.set_cons_zero, List.flatMap_cons, Nat.zero_mul, Nat.zero_add]
   rw [← h]; rfl
  | succ i =>
   rw [List.flatMap_cons, List.set_append_right _ _ (by rw [cellsP_len]; omega), cellsP_len, List.set_cons_succ, List.flatMap_cons]
   rw [show (i + 1) * 3 + j - 3 = i * 3 + j by omega, ih i j (by simpa using hi) hj u q' (by simpa using h)]
theorem flat_at (L : List Part) (i j : Nat) (hi : i < L.length) (hj : j < 3) : (L.flatMap cellsP)[i * 3 + j]? = (cellsP L[i])[j]? := by
 rw [flat_get cellsP 3 cellsP_len (by omega), show (i * 3 + j) / 3 = i by omega, show (i * 3 + j) % 3 = j by omega, List.getElem?_eq_getElem hi]; rfl
theorem row_at {base : Nat} {w : World} {v : Value} {L : List Part} (h : OwnP base w v L) (i : Nat) (hi : i < L.length) :
  ∃ gr cap, v = .slice (some ⟨gr, 0, none⟩) L.length cap ∧ gr < w.heap.size ∧ w.cell? ⟨gr, i * 3, none⟩ = some (.int .i64 L[i].f0) ∧ w.cell? ⟨gr, i * 3 + 1, none⟩ = some (.string L[i].f1) ∧ w.cell? ⟨gr, i * 3 + 2, none⟩ = some (.string L[i].f2) ∧ (∀ j, w.frozen? ⟨gr, j, none⟩ = false) := by
 rcases h.2 with ⟨_, h0⟩ | ⟨gr, cap, cur, rfl, hgb, hh, _⟩
 ·omega
 ·refine ⟨gr, cap, rfl, blk_lt hh, ?_, ?_, ?_, fun j => blk_frozen hh j⟩
  ·have := World.ownsRow.cells h (g := gr) rfl (i * 3 + 0) _ (by rw [flat_at L i 0 hi (by omega)]; rfl)
   rwa [add_plain] at this
  ·have := World.ownsRow.cells h (g := gr) rfl (i * 3 + 1) _ (by rw [flat_at L i 1 hi (by omega)]; rfl)
   rwa [add_plain] at this
  ·have := World.ownsRow.cells h (g := gr) rfl (i * 3 + 2) _ (by rw [flat_at L i 2 hi (by omega)]; rfl)
   rwa [add_plain] at this
theorem row_put {base gr n cap : Nat} {w : World} {L : List Part} (h : OwnP base w (.slice (some ⟨gr, 0, none⟩) n cap) L) (i : Nat) (hi : i < L.length) (j : Nat) (hj : j < 3) (u : Value) (q' : Part) (hq : (cellsP L[i]).set j u = cellsP q') :
  AddPost base (.slice (some ⟨gr, 0, none⟩) n cap) (L.set i q') w (w.setCell ⟨gr, i * 3 + j, none⟩ u) (.slice (some ⟨gr, 0, none⟩) n cap) := by
 rcases h.2 with ⟨e, h0⟩ | ⟨gr', cap', cur, e, hgb, hh, _⟩
 ·cases e
 ·injection e with e1 e2 e3
  injection e1 with e1
  injection e1 with e1
  subst e1 e2 e3
  have hs := World.ownsRow.stored h (i * 3 + j) u
  rw [flat_set L i j hi hj u q' hq] at hs
  refine ⟨?_, ⟨(Below.refl base w).setCell hgb _, Kept.setCell (S := fun k => some k = (Value.slice (some ⟨gr, 0, none⟩) L.length cap).ownBlock) (p := ⟨gr, i * 3 + j, none⟩) (Kept.refl _ _) (.inl rfl) u, .inl rfl⟩⟩
  unfold OwnP
  rw [List.length_set]
  exact hs.1
theorem add_app {base : Nat} {v : Value} {L : List Part} {w w1 : World} {p : Part} {e0 g1 cap1 : Nat} (h : OwnP base w v L) (hb : base ≤ w.heap.size)
  (ho : w1.ownsRow base 86 3 (.slice (some ⟨g1, 0, none⟩) (L.length + 1) cap1) (L.length + 1) (L.flatMap cellsP ++ cellsP p)) (hg : (w.alloc (.cells (cellsP p).toArray e0)).grownBy w1 v.ownBlock) (hat : v.ownBlock = some g1 ∨ g1 = w.heap.size + 1) :
  AddPost base v (L ++ [p]) w w1 (.slice (some ⟨g1, 0, none⟩) (L.length + 1) cap1) := by
 have hg0 : w.grownBy w1 v.ownBlock := (World.grownBy_alloc w _ _).trans hg
 have hl : (L ++ [p]).length = L.length + 1 := by simp
 refine ⟨?_, (Below.refl base w).grown hg0 hb (fun k hk => own_base h k hk), (Kept.refl w _).of_grown hg0 (fun k hk => .inl hk.symm), ?_⟩
 ·unfold OwnP; rw [hl, flat_snoc]; exact ho
 ·rcases hat with e | e
  ·exact .inl e.symm
  ·exact .inr ⟨g1, rfl, by omega⟩
theorem row_put3 {base gr n cap : Nat} {w : World} {L : List Part} (h : OwnP base w (.slice (some ⟨gr, 0, none⟩) n cap) L) (hb : base ≤ w.heap.size) (i : Nat) (hi : i < L.length) (p : Part) :
  AddPost base (.slice (some ⟨gr, 0, none⟩) n cap) (L.set i p) w (((w.setCell ⟨gr, i * 3, none⟩ (.int .i64 p.f0)).setCell ⟨gr, i * 3 + 1, none⟩ (.string p.f1)).setCell ⟨gr, i * 3 + 2, none⟩ (.string p.f2)) (.slice (some ⟨gr, 0, none⟩) n cap) := by
 have h1 := row_put h i hi 0 (by omega) (.int .i64 p.f0) ⟨p.f0, L[i].f1, L[i].f2⟩ rfl
 have h2 := row_put h1.1 i (by simpa using hi) 1 (by omega) (.string p.f1) ⟨p.f0, p.f1, L[i].f2⟩ (by simp [cellsP])
 have h3 := row_put h2.1 i (by simpa using hi) 2 (by omega) (.string p.f2) p (by simp [cellsP])
 simp only [List.set_set] at h3
 exact ⟨h3.1, h1.2.trans (h2.2.trans h3.2)⟩
theorem get_mid (o : List Part) (r q : Part) (h : o.length < (o ++ [r] ++ [q]).length) : (o ++ [r] ++ [q])[o.length] = r := by simp
theorem set_mid (o : List Part) (r q r' : Part) : (o ++ [r] ++ [q]).set o.length r' = o ++ [r', q] := by
 rw [List.append_assoc, List.set_append_right _ _ (Nat.le_refl _), Nat.sub_self]; rfl
theorem set_last (o : List Part) (q q' : Part) : (o ++ [q]).set o.length q' = o ++ [q'] := by rw [List.set_append_right _ _ (Nat.le_refl _), Nat.sub_self]; rfl
end Go.Proofs.Ytgccoekganghhaa.X
