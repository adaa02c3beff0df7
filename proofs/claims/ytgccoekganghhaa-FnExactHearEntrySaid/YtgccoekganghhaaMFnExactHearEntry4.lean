/- The law FnExactHearEntry of the program: its proof, part 4. -/
import Derived.Test.YtgccoekganghhaaMFnExactHearEntry3
import Derived.Test.YtgccoekganghhaaMFnExactHearEntry2
import Derived.Shelf.Abstract
set_option linter.unusedVariables false
set_option linter.unusedSimpArgs false
namespace Go.Proofs.Ytgccoekganghhaa.X
open Go.RowKit Go.Proofs.YtgccoekganghhaaW.PrintWords Go.Proofs.YtgccoekganghhaaW.PrintLast Go.Proofs.YtgccoekganghhaaW.PrintMore
theorem addL_snoc (o : List Part) (q p : Part) (hz : ¬ (p.f0 = 0 ∧ p.f1.size = 0 ∧ p.f2.size = 0)) : addL (o ++ [q]) p =
  if 0 < p.f0 ∧ 0 < q.f0 then o ++ [⟨q.f0 + p.f0, q.f1, q.f2⟩]
  else if p.f2.size ≠ 0 ∧ q.f2.size ≠ 0 then o ++ [⟨q.f0, q.f1, q.f2 ++ p.f2⟩]
  else if p.f1.size ≠ 0 ∧ q.f1.size ≠ 0 then o ++ [⟨q.f0, q.f1 ++ p.f1, q.f2⟩]
  else if p.f1.size ≠ 0 ∧ q.f2.size ≠ 0 then
   match o.getLast? with
   | some r => if r.f1.size ≠ 0 then o.dropLast ++ [⟨r.f0, r.f1 ++ p.f1, r.f2⟩, q] else o ++ [p, q]
   | none => o ++ [p, q]
  else o ++ [q] ++ [p] := by
 unfold addL
 rw [if_neg hz, List.getLast?_append]
 simp only [List.getLast?_singleton, Option.some_or, List.dropLast_concat]
 rfl

def AddOk (L : List Part) (p : Part) : Prop := pureP p ∧ L.length ≤ 900000 ∧ smallQ 1000000 p ∧ ∀ q ∈ L, smallQ 1000000000 q
set_option maxHeartbeats 8000000 in
set_option maxRecDepth 100000 in
theorem add_walk (base : Nat) (v : Value) (L : List Part) (p : Part) (w : World) (h : OwnP base w v L) (hb : base ≤ w.heap.size) (hk : AddOk L p) :
  Calls Try.prog 100 #[v, .agg #[.int .i64 p.f0, .string p.f1, .string p.f2]] w fun e w' => ∃ v', e = .returned v' ∧ AddPost base v (addL L p) w w' v' := by
 have HO := mz h
 have HS := mz hb
 obtain ⟨hp, k1, ⟨p0, p1, p2, p3⟩, k2⟩ := hk
 have HN9 := mz k1
 have HQ := mz k2
 clear h hb k1 k2
 by_cases hz : p.f0 = 0 ∧ p.f1.size = 0 ∧ p.f2.size = 0
 ·have hv : addL L p = L := by unfold addL; rw [if_pos hz]
  obtain ⟨z0, z1, z2⟩ := hz
  have HV := mz hv
  have hf0 : (p.f0 == 0) = true := by rw [z0]; rfl
  have l_pf1 : p.f1.toList = [] := (toList_nil _).2 z1
  have e_pf1 : p.f1.toList.isEmpty = true := by rw [l_pf1]; rfl
  have l_pf2 : p.f2.toList = [] := (toList_nil _).2 z2
  have e_pf2 : p.f2.toList.isEmpty = true := by rw [l_pf2]; rfl
  clear hv z1 z2 p0 p1 p2 p3 z0
  obtain ⟨A0, c0, rfl⟩ := own_slice HO.out
  go_enter Try.func100, Try.ntmps100
  go_wp2_with ((with_reducible refine gate_dst (N := 3) rfl ?_); refine bx 3 #[.int .i64 p.f0, .string p.f1, .string p.f2] 86 ?_; intro g3 hg w1 hbox hb1; have HG3 := mz hg; have HB1 := mz hb1; have K3 := mz hbox; have HO1 := mz (HO.out.below hb1); obtain ⟨x0, x1, x2⟩ := cells3 hbox; clear hg hbox hb1)
  go_ret
  exact ⟨_, rfl, by rw [HV.out]; exact ⟨HO1.out, AStep.of_below HB1.out HS.out⟩⟩
 rcases List.eq_nil_or_concat L with rfl | ⟨o, q, rfl⟩
 ·have hz' := hz
  by_cases hk0 : 0 < p.f0
  ·have hk : 0 < p.f0 := hk0
   obtain ⟨y1, y2⟩ := hp.2.1 (by omega)
   have hf0 : (p.f0 == 0) = false := by simp; omega
   have l_pf1 : p.f1.toList = [] := (toList_nil _).2 y1
   have e_pf1 : p.f1.toList.isEmpty = true := by rw [l_pf1]; rfl
   have l_pf2 : p.f2.toList = [] := (toList_nil _).2 y2
   have e_pf2 : p.f2.toList.isEmpty = true := by rw [l_pf2]; rfl
   clear y1 y2 hk0
   have hv : addL [] p = [] ++ [p] := by unfold addL; rw [if_neg hz]; rfl
   have HV := mz hv
   clear hv hz hp p0 p1 p2 p3
   obtain ⟨A0, c0, rfl⟩ := own_slice HO.out
   obtain ⟨i0, hi, hz0, hz1, hz2⟩ := info_parts info86
   have HI := mz hi
   have HZ0 := mz hz0
   have HZ1 := mz hz1
   have HZ2 := mz hz2
   clear hi hz0 hz1 hz2
   go_enter Try.func100, Try.ntmps100
   go_wp2_with (first | ((with_reducible refine gate_dst (N := 3) rfl ?_); refine bx 3 #[.int .i64 p.f0, .string p.f1, .string p.f2] 86 ?_; intro g3 hg w1 hbox hb1; have HG3 := mz hg; have HB1 := mz hb1; have K3 := mz hbox; have HO1 := mz (HO.out.below hb1); obtain ⟨x0, x1, x2⟩ := cells3 hbox; clear hg hbox hb1) | (at_builtin; refine wpList_append_lies _ rfl (.tmp 27) (.tmp 29) 34 rfl base 86 i0 (.agg #[.int .i64 0, .string ⟨#[]⟩, .string ⟨#[]⟩]) 3 40 Try.underlying34 HI.out HZ0.out HZ1.out HZ2.out rfl (by decide) (.slice A0 ([] : List Part).length c0) ([] : List Part).length (([] : List Part).flatMap cellsP) (by rfl) (own_alloc HO1.out _) ⟨w1.heap.size, 0, none⟩ 1 1 (cellsP p) (by rfl) rfl (cells_new _ _ _) (fun u hu => cells_one [p] u (by simpa using hu)) (by omega) (by unfold maxLen; have := HN9.out; omega) (by have := HN9.out; omega) (Nat.le_trans (Nat.le_trans HS.out HB1.out.size) (by simp)) _ rfl ?_; intro g1 cap1 w2 ho hg hat hlt; have HAP := mz (add_app HO1.out (Nat.le_trans HS.out HB1.out.size) ho hg (hat.imp id (fun h => h.trans (by simp)))); clear ho hg hat hlt))
   go_ret
   exact ⟨_, rfl, by rw [HV.out]; exact ⟨HAP.out.1, (AStep.of_below HB1.out HS.out).trans HAP.out.2⟩⟩
  have z0 : p.f0 = 0 := by omega
  by_cases y1 : p.f1.size = 0
  ·have hb2 : p.f2.size ≠ 0 := fun e => hz ⟨z0, y1, e⟩
   have hf0 : (p.f0 == 0) = true := by rw [z0]; rfl
   have hfg : ¬ 0 < p.f0 := by omega
   have l_pf1 : p.f1.toList = [] := (toList_nil _).2 y1
   have e_pf1 : p.f1.toList.isEmpty = true := by rw [l_pf1]; rfl
   have l_pf2 : ¬ (p.f2.toList = []) := fun e => hb2 ((toList_nil _).1 e)
   have e_pf2 : p.f2.toList.isEmpty = false := by cases hh : p.f2.toList with | nil => exact absurd hh l_pf2 | cons _ _ => rfl
   clear y1 hb2 z0 hk0
   have hv : addL [] p = [] ++ [p] := by unfold addL; rw [if_neg hz]; rfl
   have HV := mz hv
   clear hv hz hp p0 p1 p2 p3
   obtain ⟨A0, c0, rfl⟩ := own_slice HO.out
   obtain ⟨i0, hi, hz0, hz1, hz2⟩ := info_parts info86
   have HI := mz hi
   have HZ0 := mz hz0
   have HZ1 := mz hz1
   have HZ2 := mz hz2
   clear hi hz0 hz1 hz2
   go_enter Try.func100, Try.ntmps100
   go_wp2_with (first | ((with_reducible refine gate_dst (N := 3) rfl ?_); refine bx 3 #[.int .i64 p.f0, .string p.f1, .string p.f2] 86 ?_; intro g3 hg w1 hbox hb1; have HG3 := mz hg; have HB1 := mz hb1; have K3 := mz hbox; have HO1 := mz (HO.out.below hb1); obtain ⟨x0, x1, x2⟩ := cells3 hbox; clear hg hbox hb1) | (at_builtin; refine wpList_append_lies _ rfl (.tmp 27) (.tmp 29) 34 rfl base 86 i0 (.agg #[.int .i64 0, .string ⟨#[]⟩, .string ⟨#[]⟩]) 3 40 Try.underlying34 HI.out HZ0.out HZ1.out HZ2.out rfl (by decide) (.slice A0 ([] : List Part).length c0) ([] : List Part).length (([] : List Part).flatMap cellsP) (by rfl) (own_alloc HO1.out _) ⟨w1.heap.size, 0, none⟩ 1 1 (cellsP p) (by rfl) rfl (cells_new _ _ _) (fun u hu => cells_one [p] u (by simpa using hu)) (by omega) (by unfold maxLen; have := HN9.out; omega) (by have := HN9.out; omega) (Nat.le_trans (Nat.le_trans HS.out HB1.out.size) (by simp)) _ rfl ?_; intro g1 cap1 w2 ho hg hat hlt; have HAP := mz (add_app HO1.out (Nat.le_trans HS.out HB1.out.size) ho hg (hat.imp id (fun h => h.trans (by simp)))); clear ho hg hat hlt))
   go_ret
   exact ⟨_, rfl, by rw [HV.out]; exact ⟨HAP.out.1, (AStep.of_below HB1.out HS.out).trans HAP.out.2⟩⟩
  ·have hb1 : p.f1.size ≠ 0 := y1
   have hf0 : (p.f0 == 0) = true := by rw [z0]; rfl
   have hfg : ¬ 0 < p.f0 := by omega
   have l_pf1 : ¬ (p.f1.toList = []) := fun e => hb1 ((toList_nil _).1 e)
   have e_pf1 : p.f1.toList.isEmpty = false := by cases hh : p.f1.toList with | nil => exact absurd hh l_pf1 | cons _ _ => rfl
   have y2 := hp.2.2 hb1
   have l_pf2 : p.f2.toList = [] := (toList_nil _).2 y2
   have e_pf2 : p.f2.toList.isEmpty = true := by rw [l_pf2]; rfl
   clear y1 y2 hb1 z0 hk0
   have hv : addL [] p = [] ++ [p] := by unfold addL; rw [if_neg hz]; rfl
   have HV := mz hv
   clear hv hz hp p0 p1 p2 p3
   obtain ⟨A0, c0, rfl⟩ := own_slice HO.out
   obtain ⟨i0, hi, hz0, hz1, hz2⟩ := info_parts info86
   have HI := mz hi
   have HZ0 := mz hz0
   have HZ1 := mz hz1
   have HZ2 := mz hz2
   clear hi hz0 hz1 hz2
   go_enter Try.func100, Try.ntmps100
   go_wp2_with (first | ((with_reducible refine gate_dst (N := 3) rfl ?_); refine bx 3 #[.int .i64 p.f0, .string p.f1, .string p.f2] 86 ?_; intro g3 hg w1 hbox hb1; have HG3 := mz hg; have HB1 := mz hb1; have K3 := mz hbox; have HO1 := mz (HO.out.below hb1); obtain ⟨x0, x1, x2⟩ := cells3 hbox; clear hg hbox hb1) | (at_builtin; refine wpList_append_lies _ rfl (.tmp 27) (.tmp 29) 34 rfl base 86 i0 (.agg #[.int .i64 0, .string ⟨#[]⟩, .string ⟨#[]⟩]) 3 40 Try.underlying34 HI.out HZ0.out HZ1.out HZ2.out rfl (by decide) (.slice A0 ([] : List Part).length c0) ([] : List Part).length (([] : List Part).flatMap cellsP) (by rfl) (own_alloc HO1.out _) ⟨w1.heap.size, 0, none⟩ 1 1 (cellsP p) (by rfl) rfl (cells_new _ _ _) (fun u hu => cells_one [p] u (by simpa using hu)) (by omega) (by unfold maxLen; have := HN9.out; omega) (by have := HN9.out; omega) (Nat.le_trans (Nat.le_trans HS.out HB1.out.size) (by simp)) _ rfl ?_; intro g1 cap1 w2 ho hg hat hlt; have HAP := mz (add_app HO1.out (Nat.le_trans HS.out HB1.out.size) ho hg (hat.imp id (fun h => h.trans (by simp)))); clear ho hg hat hlt))
   go_ret
   exact ⟨_, rfl, by rw [HV.out]; exact ⟨HAP.out.1, (AStep.of_below HB1.out HS.out).trans HAP.out.2⟩⟩
 ·rw [List.concat_eq_append] at *
  have hs := addL_snoc o q p hz
  by_cases hk0 : 0 < p.f0
  ·have hk : 0 < p.f0 := hk0
   obtain ⟨y1, y2⟩ := hp.2.1 (by omega)
   have hf0 : (p.f0 == 0) = false := by simp; omega
   have l_pf1 : p.f1.toList = [] := (toList_nil _).2 y1
   have e_pf1 : p.f1.toList.isEmpty = true := by rw [l_pf1]; rfl
   have l_pf2 : p.f2.toList = [] := (toList_nil _).2 y2
   have e_pf2 : p.f2.toList.isEmpty = true := by rw [l_pf2]; rfl
   by_cases hq : 0 < q.f0
   ·have hv : addL (o ++ [q]) p = o ++ [⟨q.f0 + p.f0, q.f1, q.f2⟩] := by rw [hs, if_pos ⟨hk, hq⟩]
    have HV := mz hv
    have HPB : Aside0 (p.f0 ≤ 1000000) := ⟨p1⟩
    clear hv hs hz hp y1 y2
    obtain ⟨gr, cap, rfl, hgr, r0', r1', r2', _⟩ := row_at HO.out o.length (by simp)
    simp only [List.getElem_append_right (Nat.le_refl o.length), Nat.sub_self, List.getElem_cons_zero] at r0' r1' r2'
    simp only [List.length_append, List.length_cons, List.length_nil, Nat.zero_add] at HO
    have HQ1 := mz (HQ.out q (by simp))
    have ho9 : o.length ≤ 900000 := by have := HN9.out; simp at this; omega
    have HGR := mz hgr
    go_enter Try.func100, Try.ntmps100
    go_upto_region 6 with ((with_reducible refine gate_dst (N := 3) rfl ?_); refine bx 3 #[.int .i64 p.f0, .string p.f1, .string p.f2] 86 ?_; intro g3 hg w1 hbox hb1; have HG3 := mz hg; have HB1 := mz hb1; have K3 := mz hbox; have HO1 := mz (HO.out.below hb1); obtain ⟨x0, x1, x2⟩ := cells3 hbox; clear hg hbox hb1)
    have r0 := cell_step r0' HB1.out
    have r1 := cell_step r1' HB1.out
    have r2 := cell_step r2' HB1.out
    clear r0' r1' r2' x0 x1 x2
    obtain ⟨q0, q1, q2, q3⟩ := HQ1.out
    go_upto_region 8 with ((with_reducible refine gate_dst (N := 6) rfl ?_); refine bx 6 #[.int .i64 0, .string ⟨#[]⟩, .string ⟨#[]⟩] 86 ?_; intro g6 hg w2 hbox hb1; have HG6 := mz hg; have HB2 := mz hb1; have K6 := mz hbox; have HO2 := mz (HO1.out.below hb1); have K3' := mz (blk_below K3.out hb1); have v0 := cell_step r0 hb1; have v1 := cell_step r1 hb1; have v2 := cell_step r2 hb1; obtain ⟨t0, t1, t2⟩ := cells3 hbox; obtain ⟨t3, t4, t5⟩ := froz3 hbox; clear hg hbox hb1 r0 r1 r2)
    have M6 := mz (fillP K6.out rfl q.f0 q.f1 q.f2)
    have B3 := mz (belowP (Below.refl w1.heap.size w2) (Nat.le_of_eq HG6.out.symm) (.int .i64 q.f0) (.string q.f1) (.string q.f2))
    have HB3 := mz (below_step HB1.out (HB2.out.trans B3.out))
    have HO3 := mz (HO1.out.below (HB2.out.trans B3.out))
    have M3 := mz (blk_below K3.out (HB2.out.trans B3.out))
    clear v0 v1 v2 t0 t1 t2 t3 t4 t5 K6 K3' K3 B3 HO2
    generalize (((w2.setCell ⟨g6, 0, none⟩ (.int .i64 q.f0)).setCell ⟨g6, 1, none⟩ (.string q.f1)).setCell ⟨g6, 2, none⟩ (.string q.f2)) = w3 at M6 HB3 HO3 M3 ⊢
    obtain ⟨x0, x1, x2⟩ := cells3 M3.out
    obtain ⟨t0, t1, t2⟩ := cells3 M6.out
    go_upto_region 9 with fail
    clear x0 x1 x2 t0 t1 t2
    obtain ⟨gr', cap', e, _, rr0, rr1, rr2, rf⟩ := row_at HO3.out o.length (by simp)
    injection e with e e2 e3
    clear e2 e3
    injection e with e
    injection e with e
    subst e
    simp only [List.getElem_append_right (Nat.le_refl o.length), Nat.sub_self, List.getElem_cons_zero] at rr0 rr1 rr2
    have c0 := rr0
    have FZ := mz rf
    clear rr0 rr1 rr2 rf
    obtain ⟨ob, hob⟩ : ∃ ob, w3.heap[gr]? = some ob := ⟨_, Array.getElem?_eq_getElem a31_⟩
    have HOB := mz hob
    clear hob
    have hwi : IntKind.i64.wrap (o.length : Int) = (o.length : Int) := by rw [i64_w, w64 (by omega) (by omega)]
    have hwl : (o.length : Int) < (o.length : Int) + 1 := by omega
    have hwl2 : (o.length : Int) < (o.length : Int) + 2 := by omega
    have hw0 : (0 : Int) ≤ (o.length : Int) := by omega
    have hwv : IntKind.i64.wrap (q.f0 + p.f0) = q.f0 + p.f0 := by have := HPB.out; rw [i64_w, w64 (by omega) (by omega)]
    have F : ∀ W' : World, (W'.heap[gr]? = some ob ∧ W'.heap[g3]? = some (.cells #[.int .i64 p.f0, .string p.f1, .string p.f2] 86 (0, 0))) → (W'.cell? ⟨gr, o.length * 3, none⟩ = some (.int .i64 q.f0)) ∧ (W'.cell? ⟨g3, 0, none⟩ = some (.int .i64 p.f0)) := fun W' hb => ⟨(show W'.cell? _ = w3.cell? _ by unfold World.cell?; rw [hb.1, HOB.out]).trans c0, (blk_cell hb.2 0).trans rfl⟩
    refine wp_region_last_drew (ds := [11]) (S := fun W' => W'.heap[gr]? = some ob ∧ W'.heap[g3]? = some (.cells #[.int .i64 p.f0, .string p.f1, .string p.f2] 86 (0, 0))) (by kernel_rfl) ⟨HOB.out, M3.out⟩ (fun hH => ?_)
    refine' yT 0 F ?_
    refine' yT 1 F ?_
    refine' yT 2 F ?_
    refine' yT 3 F ?_
    refine' yT 4 F ?_
    refine' yT 5 F ?_
    refine' yT 6 F ?_
    refine' yT 7 F ?_
    refine' yT 8 F ?_
    refine' yT 9 F ?_
    refine' yT 10 F ?_
    have cz : w3.drew.cell? ⟨gr, o.length * 3, none⟩ = some (.int .i64 q.f0) := c0
    have fz : w3.drew.frozen? ⟨gr, o.length * 3, none⟩ = false := FZ.out _
    refine' yL 11 (w1 := w3.drew.setCell ⟨gr, o.length * 3, none⟩ (.int .i64 (q.f0 + p.f0))) ?_
    refine done_ (by kernel_rfl) ?_
    have AP := mz (row_put (w := w3.drew) (base := base) (n := o.length + 1) (cap := cap) (L := (o ++ [q])) HO3.out o.length (by simp) 0 (by omega) (.int .i64 (q.f0 + p.f0)) ⟨q.f0 + p.f0, q.f1, q.f2⟩ (by simp [cellsP]))
    clear hH F cz fz c0
    generalize w3.drew.setCell ⟨gr, o.length * 3, none⟩ (.int .i64 (q.f0 + p.f0)) = w4 at AP ⊢
    go_wp2_with fail
    go_ret
    refine ⟨_, rfl, ?_⟩
    rw [HV.out, ← set_last o q]
    exact ⟨AP.out.1, (AStep.of_below HB3.out HS.out).trans ((AStep.of_below (below_drew (Below.refl _ _)) (Nat.le_trans HS.out HB3.out.size)).trans AP.out.2)⟩
   have hv : addL (o ++ [q]) p = o ++ [q] ++ [p] := by rw [hs, if_neg (by rintro ⟨_, h⟩; exact hq h), if_neg (by rintro ⟨h, _⟩; exact h y2), if_neg (by rintro ⟨h, _⟩; exact h y1), if_neg (by rintro ⟨h, _⟩; exact h y1)]
   have HV := mz hv
   obtain ⟨i0, hi, hz0, hz1, hz2⟩ := info_parts info86
   have HI := mz hi
   have HZ0 := mz hz0
   have HZ1 := mz hz1
   have HZ2 := mz hz2
   clear hi hz0 hz1 hz2
   clear hv hs hz hp y1 y2
   obtain ⟨gr, cap, rfl, hgr, r0', r1', r2', _⟩ := row_at HO.out o.length (by simp)
   simp only [List.getElem_append_right (Nat.le_refl o.length), Nat.sub_self, List.getElem_cons_zero] at r0' r1' r2'
   simp only [List.length_append, List.length_cons, List.length_nil, Nat.zero_add] at HO
   have HQ1 := mz (HQ.out q (by simp))
   have ho9 : o.length ≤ 900000 := by have := HN9.out; simp at this; omega
   have HGR := mz hgr
   go_enter Try.func100, Try.ntmps100
   go_upto_region 6 with ((with_reducible refine gate_dst (N := 3) rfl ?_); refine bx 3 #[.int .i64 p.f0, .string p.f1, .string p.f2] 86 ?_; intro g3 hg w1 hbox hb1; have HG3 := mz hg; have HB1 := mz hb1; have K3 := mz hbox; have HO1 := mz (HO.out.below hb1); obtain ⟨x0, x1, x2⟩ := cells3 hbox; clear hg hbox hb1)
   have r0 := cell_step r0' HB1.out
   have r1 := cell_step r1' HB1.out
   have r2 := cell_step r2' HB1.out
   clear r0' r1' r2' x0 x1 x2
   obtain ⟨q0, q1, q2, q3⟩ := HQ1.out
   go_upto_region 8 with ((with_reducible refine gate_dst (N := 6) rfl ?_); refine bx 6 #[.int .i64 0, .string ⟨#[]⟩, .string ⟨#[]⟩] 86 ?_; intro g6 hg w2 hbox hb1; have HG6 := mz hg; have HB2 := mz hb1; have K6 := mz hbox; have HO2 := mz (HO1.out.below hb1); have K3' := mz (blk_below K3.out hb1); have v0 := cell_step r0 hb1; have v1 := cell_step r1 hb1; have v2 := cell_step r2 hb1; obtain ⟨t0, t1, t2⟩ := cells3 hbox; obtain ⟨t3, t4, t5⟩ := froz3 hbox; clear hg hbox hb1 r0 r1 r2)
   have M6 := mz (fillP K6.out rfl q.f0 q.f1 q.f2)
   have B3 := mz (belowP (Below.refl w1.heap.size w2) (Nat.le_of_eq HG6.out.symm) (.int .i64 q.f0) (.string q.f1) (.string q.f2))
   have HB3 := mz (below_step HB1.out (HB2.out.trans B3.out))
   have HO3 := mz (HO1.out.below (HB2.out.trans B3.out))
   have M3 := mz (blk_below K3.out (HB2.out.trans B3.out))
   clear v0 v1 v2 t0 t1 t2 t3 t4 t5 K6 K3' K3 B3 HO2
   generalize (((w2.setCell ⟨g6, 0, none⟩ (.int .i64 q.f0)).setCell ⟨g6, 1, none⟩ (.string q.f1)).setCell ⟨g6, 2, none⟩ (.string q.f2)) = w3 at M6 HB3 HO3 M3 ⊢
   obtain ⟨x0, x1, x2⟩ := cells3 M3.out
   obtain ⟨t0, t1, t2⟩ := cells3 M6.out
   go_wp2_with (at_builtin; refine wpList_append_lies _ rfl (.tmp 36) (.tmp 38) 34 rfl base 86 i0 (.agg #[.int .i64 0, .string ⟨#[]⟩, .string ⟨#[]⟩]) 3 40 Try.underlying34 HI.out HZ0.out HZ1.out HZ2.out rfl (by decide) (.slice (some ⟨gr, 0, none⟩) (o.length + 1) cap) (o ++ [q]).length ((o ++ [q]).flatMap cellsP) (by rfl) (own_alloc HO3.out _) ⟨w3.heap.size, 0, none⟩ 1 1 (cellsP p) (by rfl) rfl (cells_new _ _ _) (fun u hu => cells_one [p] u (by simpa using hu)) (by omega) (by unfold maxLen; have := HN9.out; omega) (by have := HN9.out; omega) (Nat.le_trans (Nat.le_trans HS.out HB3.out.size) (by simp)) _ rfl ?_; intro g1 cap1 w4 ho hg hat hlt; have HAP := mz (add_app HO3.out (Nat.le_trans HS.out HB3.out.size) ho hg (hat.imp id (fun h => h.trans (by simp)))); clear ho hg hat hlt)
   go_ret
   refine ⟨_, rfl, ?_⟩
   rw [HV.out]
   skip
   have hx := HAP.out
   simp only [List.length_append, List.length_cons, List.length_nil, Nat.zero_add] at hx
   exact ⟨hx.1, (AStep.of_below HB3.out HS.out).trans hx.2⟩
  have z0 : p.f0 = 0 := by omega
  by_cases y1 : p.f1.size = 0
  ·have hb2 : p.f2.size ≠ 0 := fun e => hz ⟨z0, y1, e⟩
   have hf0 : (p.f0 == 0) = true := by rw [z0]; rfl
   have hfg : ¬ 0 < p.f0 := by omega
   have l_pf1 : p.f1.toList = [] := (toList_nil _).2 y1
   have e_pf1 : p.f1.toList.isEmpty = true := by rw [l_pf1]; rfl
   have l_pf2 : ¬ (p.f2.toList = []) := fun e => hb2 ((toList_nil _).1 e)
   have e_pf2 : p.f2.toList.isEmpty = false := by cases hh : p.f2.toList with | nil => exact absurd hh l_pf2 | cons _ _ => rfl
   by_cases hq : q.f2.size ≠ 0
   ·have hv : addL (o ++ [q]) p = o ++ [⟨q.f0, q.f1, q.f2 ++ p.f2⟩] := by rw [hs, if_neg (by rintro ⟨h, _⟩; exact hfg h), if_pos ⟨hb2, hq⟩]
    have HV := mz hv
    have l_qf2 : ¬ (q.f2.toList = []) := fun e => hq ((toList_nil _).1 e)
    have e_qf2 : q.f2.toList.isEmpty = false := by cases hh : q.f2.toList with | nil => exact absurd hh l_qf2 | cons _ _ => rfl
    have hcc : ¬ 9223372036854775807 < q.f2.size + p.f2.size := by have := (HQ.out q (by simp)).2.2.2; omega
    clear hv hs hz hp y1 hb2 hq z0
    obtain ⟨gr, cap, rfl, hgr, r0', r1', r2', _⟩ := row_at HO.out o.length (by simp)
    simp only [List.getElem_append_right (Nat.le_refl o.length), Nat.sub_self, List.getElem_cons_zero] at r0' r1' r2'
    simp only [List.length_append, List.length_cons, List.length_nil, Nat.zero_add] at HO
    have HQ1 := mz (HQ.out q (by simp))
    have ho9 : o.length ≤ 900000 := by have := HN9.out; simp at this; omega
    have HGR := mz hgr
    go_enter Try.func100, Try.ntmps100
    go_upto_region 6 with ((with_reducible refine gate_dst (N := 3) rfl ?_); refine bx 3 #[.int .i64 p.f0, .string p.f1, .string p.f2] 86 ?_; intro g3 hg w1 hbox hb1; have HG3 := mz hg; have HB1 := mz hb1; have K3 := mz hbox; have HO1 := mz (HO.out.below hb1); obtain ⟨x0, x1, x2⟩ := cells3 hbox; clear hg hbox hb1)
    have r0 := cell_step r0' HB1.out
    have r1 := cell_step r1' HB1.out
    have r2 := cell_step r2' HB1.out
    clear r0' r1' r2' x0 x1 x2
    obtain ⟨q0, q1, q2, q3⟩ := HQ1.out
    go_upto_region 8 with ((with_reducible refine gate_dst (N := 6) rfl ?_); refine bx 6 #[.int .i64 0, .string ⟨#[]⟩, .string ⟨#[]⟩] 86 ?_; intro g6 hg w2 hbox hb1; have HG6 := mz hg; have HB2 := mz hb1; have K6 := mz hbox; have HO2 := mz (HO1.out.below hb1); have K3' := mz (blk_below K3.out hb1); have v0 := cell_step r0 hb1; have v1 := cell_step r1 hb1; have v2 := cell_step r2 hb1; obtain ⟨t0, t1, t2⟩ := cells3 hbox; obtain ⟨t3, t4, t5⟩ := froz3 hbox; clear hg hbox hb1 r0 r1 r2)
    have M6 := mz (fillP K6.out rfl q.f0 q.f1 q.f2)
    have B3 := mz (belowP (Below.refl w1.heap.size w2) (Nat.le_of_eq HG6.out.symm) (.int .i64 q.f0) (.string q.f1) (.string q.f2))
    have HB3 := mz (below_step HB1.out (HB2.out.trans B3.out))
    have HO3 := mz (HO1.out.below (HB2.out.trans B3.out))
    have M3 := mz (blk_below K3.out (HB2.out.trans B3.out))
    clear v0 v1 v2 t0 t1 t2 t3 t4 t5 K6 K3' K3 B3 HO2
    generalize (((w2.setCell ⟨g6, 0, none⟩ (.int .i64 q.f0)).setCell ⟨g6, 1, none⟩ (.string q.f1)).setCell ⟨g6, 2, none⟩ (.string q.f2)) = w3 at M6 HB3 HO3 M3 ⊢
    obtain ⟨x0, x1, x2⟩ := cells3 M3.out
    obtain ⟨t0, t1, t2⟩ := cells3 M6.out
    go_upto_region 11 with fail
    clear x0 x1 x2 t0 t1 t2
    obtain ⟨gr', cap', e, _, rr0, rr1, rr2, rf⟩ := row_at HO3.out o.length (by simp)
    injection e with e e2 e3
    clear e2 e3
    injection e with e
    injection e with e
    subst e
    simp only [List.getElem_append_right (Nat.le_refl o.length), Nat.sub_self, List.getElem_cons_zero] at rr0 rr1 rr2
    have c0 := rr2
    have FZ := mz rf
    clear rr0 rr1 rr2 rf
    obtain ⟨ob, hob⟩ : ∃ ob, w3.heap[gr]? = some ob := ⟨_, Array.getElem?_eq_getElem a31_⟩
    have HOB := mz hob
    clear hob
    have hwi : IntKind.i64.wrap (o.length : Int) = (o.length : Int) := by rw [i64_w, w64 (by omega) (by omega)]
    have hwl : (o.length : Int) < (o.length : Int) + 1 := by omega
    have hwl2 : (o.length : Int) < (o.length : Int) + 2 := by omega
    have hw0 : (0 : Int) ≤ (o.length : Int) := by omega
    have F : ∀ W' : World, (W'.heap[gr]? = some ob ∧ W'.heap[g3]? = some (.cells #[.int .i64 p.f0, .string p.f1, .string p.f2] 86 (0, 0))) → (W'.cell? ⟨gr, o.length * 3 + 2, none⟩ = some (.string q.f2)) ∧ (W'.cell? ⟨g3, 2, none⟩ = some (.string p.f2)) := fun W' hb => ⟨(show W'.cell? _ = w3.cell? _ by unfold World.cell?; rw [hb.1, HOB.out]).trans c0, (blk_cell hb.2 2).trans rfl⟩
    refine wp_region_last_drew (ds := [11]) (S := fun W' => W'.heap[gr]? = some ob ∧ W'.heap[g3]? = some (.cells #[.int .i64 p.f0, .string p.f1, .string p.f2] 86 (0, 0))) (by kernel_rfl) ⟨HOB.out, M3.out⟩ (fun hH => ?_)
    refine' yT 0 F ?_
    refine' yT 1 F ?_
    refine' yT 2 F ?_
    refine' yT 3 F ?_
    refine' yT 4 F ?_
    refine' yT 5 F ?_
    refine' yT 6 F ?_
    refine' yT 7 F ?_
    refine' yT 8 F ?_
    refine' yT 9 F ?_
    refine' yT 10 F ?_
    have cz : w3.drew.cell? ⟨gr, o.length * 3 + 2, none⟩ = some (.string q.f2) := c0
    have fz : w3.drew.frozen? ⟨gr, o.length * 3 + 2, none⟩ = false := FZ.out _
    refine' yL 11 (w1 := w3.drew.setCell ⟨gr, o.length * 3 + 2, none⟩ (.string (q.f2 ++ p.f2))) ?_
    refine done_ (by kernel_rfl) ?_
    have AP := mz (row_put (w := w3.drew) (base := base) (n := o.length + 1) (cap := cap) (L := (o ++ [q])) HO3.out o.length (by simp) 2 (by omega) (.string (q.f2 ++ p.f2)) ⟨q.f0, q.f1, q.f2 ++ p.f2⟩ (by simp [cellsP]))
    clear hH F cz fz c0
    generalize w3.drew.setCell ⟨gr, o.length * 3 + 2, none⟩ (.string (q.f2 ++ p.f2)) = w4 at AP ⊢
    go_wp2_with fail
    go_ret
    refine ⟨_, rfl, ?_⟩
    rw [HV.out, ← set_last o q]
    exact ⟨AP.out.1, (AStep.of_below HB3.out HS.out).trans ((AStep.of_below (below_drew (Below.refl _ _)) (Nat.le_trans HS.out HB3.out.size)).trans AP.out.2)⟩
   have hq0 : q.f2.size = 0 := by omega
   have l_qf2 : q.f2.toList = [] := (toList_nil _).2 hq0
   have e_qf2 : q.f2.toList.isEmpty = true := by rw [l_qf2]; rfl
   have hv : addL (o ++ [q]) p = o ++ [q] ++ [p] := by rw [hs, if_neg (by rintro ⟨h, _⟩; exact hfg h), if_neg (by rintro ⟨_, h⟩; exact hq h), if_neg (by rintro ⟨h, _⟩; exact h y1), if_neg (by rintro ⟨h, _⟩; exact h y1)]
   have HV := mz hv
   obtain ⟨i0, hi, hz0, hz1, hz2⟩ := info_parts info86
   have HI := mz hi
   have HZ0 := mz hz0
   have HZ1 := mz hz1
   have HZ2 := mz hz2
   clear hi hz0 hz1 hz2
   clear hv hs hz hp y1 hb2 hq hq0 z0
   obtain ⟨gr, cap, rfl, hgr, r0', r1', r2', _⟩ := row_at HO.out o.length (by simp)
   simp only [List.getElem_append_right (Nat.le_refl o.length), Nat.sub_self, List.getElem_cons_zero] at r0' r1' r2'
   simp only [List.length_append, List.length_cons, List.length_nil, Nat.zero_add] at HO
   have HQ1 := mz (HQ.out q (by simp))
   have ho9 : o.length ≤ 900000 := by have := HN9.out; simp at this; omega
   have HGR := mz hgr
   go_enter Try.func100, Try.ntmps100
   go_upto_region 6 with ((with_reducible refine gate_dst (N := 3) rfl ?_); refine bx 3 #[.int .i64 p.f0, .string p.f1, .string p.f2] 86 ?_; intro g3 hg w1 hbox hb1; have HG3 := mz hg; have HB1 := mz hb1; have K3 := mz hbox; have HO1 := mz (HO.out.below hb1); obtain ⟨x0, x1, x2⟩ := cells3 hbox; clear hg hbox hb1)
   have r0 := cell_step r0' HB1.out
   have r1 := cell_step r1' HB1.out
   have r2 := cell_step r2' HB1.out
   clear r0' r1' r2' x0 x1 x2
   obtain ⟨q0, q1, q2, q3⟩ := HQ1.out
   go_upto_region 8 with ((with_reducible refine gate_dst (N := 6) rfl ?_); refine bx 6 #[.int .i64 0, .string ⟨#[]⟩, .string ⟨#[]⟩] 86 ?_; intro g6 hg w2 hbox hb1; have HG6 := mz hg; have HB2 := mz hb1; have K6 := mz hbox; have HO2 := mz (HO1.out.below hb1); have K3' := mz (blk_below K3.out hb1); have v0 := cell_step r0 hb1; have v1 := cell_step r1 hb1; have v2 := cell_step r2 hb1; obtain ⟨t0, t1, t2⟩ := cells3 hbox; obtain ⟨t3, t4, t5⟩ := froz3 hbox; clear hg hbox hb1 r0 r1 r2)
   have M6 := mz (fillP K6.out rfl q.f0 q.f1 q.f2)
   have B3 := mz (belowP (Below.refl w1.heap.size w2) (Nat.le_of_eq HG6.out.symm) (.int .i64 q.f0) (.string q.f1) (.string q.f2))
   have HB3 := mz (below_step HB1.out (HB2.out.trans B3.out))
   have HO3 := mz (HO1.out.below (HB2.out.trans B3.out))
   have M3 := mz (blk_below K3.out (HB2.out.trans B3.out))
   clear v0 v1 v2 t0 t1 t2 t3 t4 t5 K6 K3' K3 B3 HO2
   generalize (((w2.setCell ⟨g6, 0, none⟩ (.int .i64 q.f0)).setCell ⟨g6, 1, none⟩ (.string q.f1)).setCell ⟨g6, 2, none⟩ (.string q.f2)) = w3 at M6 HB3 HO3 M3 ⊢
   obtain ⟨x0, x1, x2⟩ := cells3 M3.out
   obtain ⟨t0, t1, t2⟩ := cells3 M6.out
   go_wp2_with (at_builtin; refine wpList_append_lies _ rfl (.tmp 36) (.tmp 38) 34 rfl base 86 i0 (.agg #[.int .i64 0, .string ⟨#[]⟩, .string ⟨#[]⟩]) 3 40 Try.underlying34 HI.out HZ0.out HZ1.out HZ2.out rfl (by decide) (.slice (some ⟨gr, 0, none⟩) (o.length + 1) cap) (o ++ [q]).length ((o ++ [q]).flatMap cellsP) (by rfl) (own_alloc HO3.out _) ⟨w3.heap.size, 0, none⟩ 1 1 (cellsP p) (by rfl) rfl (cells_new _ _ _) (fun u hu => cells_one [p] u (by simpa using hu)) (by omega) (by unfold maxLen; have := HN9.out; omega) (by have := HN9.out; omega) (Nat.le_trans (Nat.le_trans HS.out HB3.out.size) (by simp)) _ rfl ?_; intro g1 cap1 w4 ho hg hat hlt; have HAP := mz (add_app HO3.out (Nat.le_trans HS.out HB3.out.size) ho hg (hat.imp id (fun h => h.trans (by simp)))); clear ho hg hat hlt)
   go_ret
   refine ⟨_, rfl, ?_⟩
   rw [HV.out]
   skip
   have hx := HAP.out
   simp only [List.length_append, List.length_cons, List.length_nil, Nat.zero_add] at hx
   exact ⟨hx.1, (AStep.of_below HB3.out HS.out).trans hx.2⟩
  ·have hb1 : p.f1.size ≠ 0 := y1
   have hf0 : (p.f0 == 0) = true := by rw [z0]; rfl
   have hfg : ¬ 0 < p.f0 := by omega
   have l_pf1 : ¬ (p.f1.toList = []) := fun e => hb1 ((toList_nil _).1 e)
   have e_pf1 : p.f1.toList.isEmpty = false := by cases hh : p.f1.toList with | nil => exact absurd hh l_pf1 | cons _ _ => rfl
   have y2 := hp.2.2 hb1
   have l_pf2 : p.f2.toList = [] := (toList_nil _).2 y2
   have e_pf2 : p.f2.toList.isEmpty = true := by rw [l_pf2]; rfl
   by_cases hq : q.f1.size ≠ 0
   ·have hv : addL (o ++ [q]) p = o ++ [⟨q.f0, q.f1 ++ p.f1, q.f2⟩] := by rw [hs, if_neg (by rintro ⟨h, _⟩; exact hfg h), if_neg (by rintro ⟨h, _⟩; exact h y2), if_pos ⟨hb1, hq⟩]
    have HV := mz hv
    have l_qf1 : ¬ (q.f1.toList = []) := fun e => hq ((toList_nil _).1 e)
    have e_qf1 : q.f1.toList.isEmpty = false := by cases hh : q.f1.toList with | nil => exact absurd hh l_qf1 | cons _ _ => rfl
    have hcc : ¬ 9223372036854775807 < q.f1.size + p.f1.size := by have := (HQ.out q (by simp)).2.2.1; omega
    clear hv hs hz hp y2 hb1 hq z0
    obtain ⟨gr, cap, rfl, hgr, r0', r1', r2', _⟩ := row_at HO.out o.length (by simp)
    simp only [List.getElem_append_right (Nat.le_refl o.length), Nat.sub_self, List.getElem_cons_zero] at r0' r1' r2'
    simp only [List.length_append, List.length_cons, List.length_nil, Nat.zero_add] at HO
    have HQ1 := mz (HQ.out q (by simp))
    have ho9 : o.length ≤ 900000 := by have := HN9.out; simp at this; omega
    have HGR := mz hgr
    go_enter Try.func100, Try.ntmps100
    go_upto_region 6 with ((with_reducible refine gate_dst (N := 3) rfl ?_); refine bx 3 #[.int .i64 p.f0, .string p.f1, .string p.f2] 86 ?_; intro g3 hg w1 hbox hb1; have HG3 := mz hg; have HB1 := mz hb1; have K3 := mz hbox; have HO1 := mz (HO.out.below hb1); obtain ⟨x0, x1, x2⟩ := cells3 hbox; clear hg hbox hb1)
    have r0 := cell_step r0' HB1.out
    have r1 := cell_step r1' HB1.out
    have r2 := cell_step r2' HB1.out
    clear r0' r1' r2' x0 x1 x2
    obtain ⟨q0, q1, q2, q3⟩ := HQ1.out
    go_upto_region 8 with ((with_reducible refine gate_dst (N := 6) rfl ?_); refine bx 6 #[.int .i64 0, .string ⟨#[]⟩, .string ⟨#[]⟩] 86 ?_; intro g6 hg w2 hbox hb1; have HG6 := mz hg; have HB2 := mz hb1; have K6 := mz hbox; have HO2 := mz (HO1.out.below hb1); have K3' := mz (blk_below K3.out hb1); have v0 := cell_step r0 hb1; have v1 := cell_step r1 hb1; have v2 := cell_step r2 hb1; obtain ⟨t0, t1, t2⟩ := cells3 hbox; obtain ⟨t3, t4, t5⟩ := froz3 hbox; clear hg hbox hb1 r0 r1 r2)
    have M6 := mz (fillP K6.out rfl q.f0 q.f1 q.f2)
    have B3 := mz (belowP (Below.refl w1.heap.size w2) (Nat.le_of_eq HG6.out.symm) (.int .i64 q.f0) (.string q.f1) (.string q.f2))
    have HB3 := mz (below_step HB1.out (HB2.out.trans B3.out))
    have HO3 := mz (HO1.out.below (HB2.out.trans B3.out))
    have M3 := mz (blk_below K3.out (HB2.out.trans B3.out))
    clear v0 v1 v2 t0 t1 t2 t3 t4 t5 K6 K3' K3 B3 HO2
    generalize (((w2.setCell ⟨g6, 0, none⟩ (.int .i64 q.f0)).setCell ⟨g6, 1, none⟩ (.string q.f1)).setCell ⟨g6, 2, none⟩ (.string q.f2)) = w3 at M6 HB3 HO3 M3 ⊢
    obtain ⟨x0, x1, x2⟩ := cells3 M3.out
    obtain ⟨t0, t1, t2⟩ := cells3 M6.out
    go_upto_region 13 with fail
    clear x0 x1 x2 t0 t1 t2
    obtain ⟨gr', cap', e, _, rr0, rr1, rr2, rf⟩ := row_at HO3.out o.length (by simp)
    injection e with e e2 e3
    clear e2 e3
    injection e with e
    injection e with e
    subst e
    simp only [List.getElem_append_right (Nat.le_refl o.length), Nat.sub_self, List.getElem_cons_zero] at rr0 rr1 rr2
    have c0 := rr1
    have FZ := mz rf
    clear rr0 rr1 rr2 rf
    obtain ⟨ob, hob⟩ : ∃ ob, w3.heap[gr]? = some ob := ⟨_, Array.getElem?_eq_getElem a31_⟩
    have HOB := mz hob
    clear hob
    have hwi : IntKind.i64.wrap (o.length : Int) = (o.length : Int) := by rw [i64_w, w64 (by omega) (by omega)]
    have hwl : (o.length : Int) < (o.length : Int) + 1 := by omega
    have hwl2 : (o.length : Int) < (o.length : Int) + 2 := by omega
    have hw0 : (0 : Int) ≤ (o.length : Int) := by omega
    have F : ∀ W' : World, (W'.heap[gr]? = some ob ∧ W'.heap[g3]? = some (.cells #[.int .i64 p.f0, .string p.f1, .string p.f2] 86 (0, 0))) → (W'.cell? ⟨gr, o.length * 3 + 1, none⟩ = some (.string q.f1)) ∧ (W'.cell? ⟨g3, 1, none⟩ = some (.string p.f1)) := fun W' hb => ⟨(show W'.cell? _ = w3.cell? _ by unfold World.cell?; rw [hb.1, HOB.out]).trans c0, (blk_cell hb.2 1).trans rfl⟩
    refine wp_region_last_drew (ds := [11]) (S := fun W' => W'.heap[gr]? = some ob ∧ W'.heap[g3]? = some (.cells #[.int .i64 p.f0, .string p.f1, .string p.f2] 86 (0, 0))) (by kernel_rfl) ⟨HOB.out, M3.out⟩ (fun hH => ?_)
    refine' yT 0 F ?_
    refine' yT 1 F ?_
    refine' yT 2 F ?_
    refine' yT 3 F ?_
    refine' yT 4 F ?_
    refine' yT 5 F ?_
    refine' yT 6 F ?_
    refine' yT 7 F ?_
    refine' yT 8 F ?_
    refine' yT 9 F ?_
    refine' yT 10 F ?_
    have cz : w3.drew.cell? ⟨gr, o.length * 3 + 1, none⟩ = some (.string q.f1) := c0
    have fz : w3.drew.frozen? ⟨gr, o.length * 3 + 1, none⟩ = false := FZ.out _
    refine' yL 11 (w1 := w3.drew.setCell ⟨gr, o.length * 3 + 1, none⟩ (.string (q.f1 ++ p.f1))) ?_
    refine done_ (by kernel_rfl) ?_
    have AP := mz (row_put (w := w3.drew) (base := base) (n := o.length + 1) (cap := cap) (L := (o ++ [q])) HO3.out o.length (by simp) 1 (by omega) (.string (q.f1 ++ p.f1)) ⟨q.f0, q.f1 ++ p.f1, q.f2⟩ (by simp [cellsP]))
    clear hH F cz fz c0
    generalize w3.drew.setCell ⟨gr, o.length * 3 + 1, none⟩ (.string (q.f1 ++ p.f1)) = w4 at AP ⊢
    go_wp2_with fail
    go_ret
    refine ⟨_, rfl, ?_⟩
    rw [HV.out, ← set_last o q]
    exact ⟨AP.out.1, (AStep.of_below HB3.out HS.out).trans ((AStep.of_below (below_drew (Below.refl _ _)) (Nat.le_trans HS.out HB3.out.size)).trans AP.out.2)⟩
   have hq1 : q.f1.size = 0 := by omega
   have l_qf1 : q.f1.toList = [] := (toList_nil _).2 hq1
   have e_qf1 : q.f1.toList.isEmpty = true := by rw [l_qf1]; rfl
   by_cases hq2 : q.f2.size ≠ 0
   ·have l_qf2 : ¬ (q.f2.toList = []) := fun e => hq2 ((toList_nil _).1 e)
    have e_qf2 : q.f2.toList.isEmpty = false := by cases hh : q.f2.toList with | nil => exact absurd hh l_qf2 | cons _ _ => rfl
    rcases List.eq_nil_or_concat o with rfl | ⟨o, r, rfl⟩
    ·have hv : addL (([] : List Part) ++ [q]) p = ([] : List Part) ++ [p] ++ [q] := by rw [hs, if_neg (by rintro ⟨h, _⟩; exact hfg h), if_neg (by rintro ⟨h, _⟩; exact h y2), if_neg (by rintro ⟨_, h⟩; exact hq h), if_pos ⟨hb1, hq2⟩]; simp
     have HV := mz hv
     obtain ⟨i0, hi, hz0, hz1, hz2⟩ := info_parts info86
     have HI := mz hi
     have HZ0 := mz hz0
     have HZ1 := mz hz1
     have HZ2 := mz hz2
     clear hi hz0 hz1 hz2
     clear hv hs hz hp y2 hb1 hq hq1 hq2 z0
     obtain ⟨gr, cap, rfl, hgr, r0', r1', r2', _⟩ := row_at HO.out ([] : List Part).length (by simp)
     simp only [List.getElem_append_right (Nat.le_refl ([] : List Part).length), Nat.sub_self, List.getElem_cons_zero, List.length_append, List.length_cons, List.length_nil, Nat.zero_add, Nat.zero_mul] at r0' r1' r2'
     simp only [List.length_append, List.length_cons, List.length_nil, Nat.zero_add] at HO
     have HQ1 := mz (HQ.out q (by simp))
     have ho9 : 0 ≤ 900000 := by have := HN9.out; simp at this; omega
     have HGR := mz hgr
     go_enter Try.func100, Try.ntmps100
     go_upto_region 6 with ((with_reducible refine gate_dst (N := 3) rfl ?_); refine bx 3 #[.int .i64 p.f0, .string p.f1, .string p.f2] 86 ?_; intro g3 hg w1 hbox hb1; have HG3 := mz hg; have HB1 := mz hb1; have K3 := mz hbox; have HO1 := mz (HO.out.below hb1); obtain ⟨x0, x1, x2⟩ := cells3 hbox; clear hg hbox hb1)
     have r0 := cell_step r0' HB1.out
     have r1 := cell_step r1' HB1.out
     have r2 := cell_step r2' HB1.out
     clear r0' r1' r2' x0 x1 x2
     obtain ⟨q0, q1, q2, q3⟩ := HQ1.out
     go_upto_region 8 with ((with_reducible refine gate_dst (N := 6) rfl ?_); refine bx 6 #[.int .i64 0, .string ⟨#[]⟩, .string ⟨#[]⟩] 86 ?_; intro g6 hg w2 hbox hb1; have HG6 := mz hg; have HB2 := mz hb1; have K6 := mz hbox; have HO2 := mz (HO1.out.below hb1); have K3' := mz (blk_below K3.out hb1); have v0 := cell_step r0 hb1; have v1 := cell_step r1 hb1; have v2 := cell_step r2 hb1; obtain ⟨t0, t1, t2⟩ := cells3 hbox; obtain ⟨t3, t4, t5⟩ := froz3 hbox; clear hg hbox hb1 r0 r1 r2)
     have M6 := mz (fillP K6.out rfl q.f0 q.f1 q.f2)
     have B3 := mz (belowP (Below.refl w1.heap.size w2) (Nat.le_of_eq HG6.out.symm) (.int .i64 q.f0) (.string q.f1) (.string q.f2))
     have HB3 := mz (below_step HB1.out (HB2.out.trans B3.out))
     have HO3 := mz (HO1.out.below (HB2.out.trans B3.out))
     have M3 := mz (blk_below K3.out (HB2.out.trans B3.out))
     clear v0 v1 v2 t0 t1 t2 t3 t4 t5 K6 K3' K3 B3 HO2
     generalize (((w2.setCell ⟨g6, 0, none⟩ (.int .i64 q.f0)).setCell ⟨g6, 1, none⟩ (.string q.f1)).setCell ⟨g6, 2, none⟩ (.string q.f2)) = w3 at M6 HB3 HO3 M3 ⊢
     obtain ⟨x0, x1, x2⟩ := cells3 M3.out
     obtain ⟨t0, t1, t2⟩ := cells3 M6.out
     have hgr6 : g6 ≠ gr := fun e => by have h1 := HGR.out; have h2 := HG6.out; have h3 := HB1.out.size; omega
     have hgr3 : g3 ≠ gr := fun e => by have h1 := HGR.out; have h2 := HG3.out; omega
     go_upto_region 18 with fail
     obtain ⟨gr', cap', e, _, rr0, rr1, rr2, rf⟩ := row_at HO3.out ([] : List Part).length (by simp)
     injection e with e e2 e3
     clear e2 e3
     injection e with e
     injection e with e
     subst e
     simp only [List.getElem_append_right (Nat.le_refl ([] : List Part).length), Nat.sub_self, List.getElem_cons_zero, List.length_append, List.length_cons, List.length_nil, Nat.zero_add, Nat.zero_mul] at rr0 rr1 rr2
     have f0 := rf (0)
     have f1 := rf (1)
     have f2 := rf (2)
     clear rf
     go_upto_region 19 with fail
     have ap := row_put3 (n := 0 + 1) (cap := cap) HO3.out (Nat.le_trans HS.out HB3.out.size) ([] : List Part).length (by simp) p
     rw [set_last] at ap
     simp only [List.length_append, List.length_cons, List.length_nil, Nat.zero_add, Nat.zero_mul] at ap
     have AP := mz ap
     clear ap rr0 rr1 rr2 f0 f1 f2 x0 x1 x2 t0 t1 t2
     generalize (((w3.setCell ⟨gr, 0, none⟩ (.int .i64 p.f0)).setCell ⟨gr, 1, none⟩ (.string p.f1)).setCell ⟨gr, 2, none⟩ (.string p.f2)) = w4 at AP ⊢
     have M6' := mz ((AP.out.2.kept.2 g6 (blk_lt M6.out) (fun e => by injection e with e; exact hgr6 e)).trans M6.out)
     obtain ⟨t0, t1, t2⟩ := cells3 M6'.out
     have HO4 := mz AP.out.1
     have HN8 := HN9
     clear HN9
     have HN9 : Aside0 ((([] : List Part) ++ [p]).length ≤ 900000) := ⟨by have h8 := HN8.out; rw [List.length_append] at h8 ⊢; exact h8⟩
     go_wp2_with (at_builtin; refine wpList_append_lies _ rfl (.tmp 137) (.tmp 139) 34 rfl base 86 i0 (.agg #[.int .i64 0, .string ⟨#[]⟩, .string ⟨#[]⟩]) 3 40 Try.underlying34 HI.out HZ0.out HZ1.out HZ2.out rfl (by decide) (.slice (some ⟨gr, 0, none⟩) (0 + 1) cap) (([] : List Part) ++ [p]).length ((([] : List Part) ++ [p]).flatMap cellsP) (by rfl) (own_alloc HO4.out _) ⟨w4.heap.size, 0, none⟩ 1 1 (cellsP q) (by rfl) rfl (cells_new _ _ _) (fun u hu => cells_one [q] u (by simpa using hu)) (by omega) (by unfold maxLen; have := HN9.out; omega) (by have := HN9.out; omega) (Nat.le_trans (Nat.le_trans (Nat.le_trans HS.out HB3.out.size) AP.out.2.below.size) (by simp)) _ rfl ?_; intro g1 cap1 w5 ho hg hat hlt; have HAP := mz (add_app HO4.out (Nat.le_trans (Nat.le_trans HS.out HB3.out.size) AP.out.2.below.size) ho hg (hat.imp id (fun h => h.trans (by simp)))); clear ho hg hat hlt)
     go_ret
     refine ⟨_, rfl, ?_⟩
     have e2 : addL [q] p = ([] : List Part) ++ [p] ++ [q] := HV.out
     rw [e2]
     have hx := HAP.out
     simp only [List.length_append, List.length_cons, List.length_nil, Nat.zero_add] at hx
     exact ⟨hx.1, (AStep.of_below HB3.out HS.out).trans (AP.out.2.trans hx.2)⟩
    rw [List.concat_eq_append] at *
    by_cases hr : r.f1.size ≠ 0
    ·have hv : addL (o ++ [r] ++ [q]) p = o ++ [⟨r.f0, r.f1 ++ p.f1, r.f2⟩, q] := by rw [hs, if_neg (by rintro ⟨h, _⟩; exact hfg h), if_neg (by rintro ⟨h, _⟩; exact h y2), if_neg (by rintro ⟨_, h⟩; exact hq h), if_pos ⟨hb1, hq2⟩]; simp; intro e; exact absurd (by rw [e]; rfl) hr
     have HV := mz hv
     have l_rf1 : ¬ (r.f1.toList = []) := fun e => hr ((toList_nil _).1 e)
     have e_rf1 : r.f1.toList.isEmpty = false := by cases hh : r.f1.toList with | nil => exact absurd hh l_rf1 | cons _ _ => rfl
     have hcc : ¬ 9223372036854775807 < r.f1.size + p.f1.size := by have := (HQ.out r (by simp)).2.2.1; omega
     clear hv hs hz hp y2 hb1 hq hq1 hq2 z0 hr
     obtain ⟨gr, cap, rfl, hgr, r0', r1', r2', _⟩ := row_at HO.out (o ++ [r]).length (by simp)
     simp only [List.getElem_append_right (Nat.le_refl (o ++ [r]).length), Nat.sub_self, List.getElem_cons_zero, List.length_append, List.length_cons, List.length_nil, Nat.zero_add, Nat.zero_mul] at r0' r1' r2'
     simp only [List.length_append, List.length_cons, List.length_nil, Nat.zero_add] at HO
     have HQ1 := mz (HQ.out q (by simp))
     have ho9 : (o.length + 1) ≤ 900000 := by have := HN9.out; simp at this; omega
     have HGR := mz hgr
     go_enter Try.func100, Try.ntmps100
     go_upto_region 6 with ((with_reducible refine gate_dst (N := 3) rfl ?_); refine bx 3 #[.int .i64 p.f0, .string p.f1, .string p.f2] 86 ?_; intro g3 hg w1 hbox hb1; have HG3 := mz hg; have HB1 := mz hb1; have K3 := mz hbox; have HO1 := mz (HO.out.below hb1); obtain ⟨x0, x1, x2⟩ := cells3 hbox; clear hg hbox hb1)
     have r0 := cell_step r0' HB1.out
     have r1 := cell_step r1' HB1.out
     have r2 := cell_step r2' HB1.out
     clear r0' r1' r2' x0 x1 x2
     obtain ⟨q0, q1, q2, q3⟩ := HQ1.out
     go_upto_region 8 with ((with_reducible refine gate_dst (N := 6) rfl ?_); refine bx 6 #[.int .i64 0, .string ⟨#[]⟩, .string ⟨#[]⟩] 86 ?_; intro g6 hg w2 hbox hb1; have HG6 := mz hg; have HB2 := mz hb1; have K6 := mz hbox; have HO2 := mz (HO1.out.below hb1); have K3' := mz (blk_below K3.out hb1); have v0 := cell_step r0 hb1; have v1 := cell_step r1 hb1; have v2 := cell_step r2 hb1; obtain ⟨t0, t1, t2⟩ := cells3 hbox; obtain ⟨t3, t4, t5⟩ := froz3 hbox; clear hg hbox hb1 r0 r1 r2)
     have M6 := mz (fillP K6.out rfl q.f0 q.f1 q.f2)
     have B3 := mz (belowP (Below.refl w1.heap.size w2) (Nat.le_of_eq HG6.out.symm) (.int .i64 q.f0) (.string q.f1) (.string q.f2))
     have HB3 := mz (below_step HB1.out (HB2.out.trans B3.out))
     have HO3 := mz (HO1.out.below (HB2.out.trans B3.out))
     have M3 := mz (blk_below K3.out (HB2.out.trans B3.out))
     clear v0 v1 v2 t0 t1 t2 t3 t4 t5 K6 K3' K3 B3 HO2
     generalize (((w2.setCell ⟨g6, 0, none⟩ (.int .i64 q.f0)).setCell ⟨g6, 1, none⟩ (.string q.f1)).setCell ⟨g6, 2, none⟩ (.string q.f2)) = w3 at M6 HB3 HO3 M3 ⊢
     obtain ⟨x0, x1, x2⟩ := cells3 M3.out
     obtain ⟨t0, t1, t2⟩ := cells3 M6.out
     obtain ⟨gr', cap', e, _, rn0, rn1, rn2, rf⟩ := row_at HO3.out o.length (by simp)
     injection e with e e2 e3
     clear e2 e3
     injection e with e
     injection e with e
     subst e
     simp only [get_mid] at rn0 rn1 rn2
     clear rn0 rn2 rf
     go_upto_region 16 with fail
     clear rn1
     clear x0 x1 x2 t0 t1 t2
     obtain ⟨gr', cap', e, _, rr0, rr1, rr2, rf⟩ := row_at HO3.out o.length (by simp)
     injection e with e e2 e3
     clear e2 e3
     injection e with e
     injection e with e
     subst e
     simp only [get_mid] at rr0 rr1 rr2
     have c0 := rr1
     have FZ := mz rf
     clear rr0 rr1 rr2 rf
     obtain ⟨ob, hob⟩ : ∃ ob, w3.heap[gr]? = some ob := ⟨_, Array.getElem?_eq_getElem a31_⟩
     have HOB := mz hob
     clear hob
     have hwi : IntKind.i64.wrap (o.length : Int) = (o.length : Int) := by rw [i64_w, w64 (by omega) (by omega)]
     have hwl : (o.length : Int) < (o.length : Int) + 1 := by omega
     have hwl2 : (o.length : Int) < (o.length : Int) + 2 := by omega
     have hw0 : (0 : Int) ≤ (o.length : Int) := by omega
     have F : ∀ W' : World, (W'.heap[gr]? = some ob ∧ W'.heap[g3]? = some (.cells #[.int .i64 p.f0, .string p.f1, .string p.f2] 86 (0, 0))) → (W'.cell? ⟨gr, o.length * 3 + 1, none⟩ = some (.string r.f1)) ∧ (W'.cell? ⟨g3, 1, none⟩ = some (.string p.f1)) := fun W' hb => ⟨(show W'.cell? _ = w3.cell? _ by unfold World.cell?; rw [hb.1, HOB.out]).trans c0, (blk_cell hb.2 1).trans rfl⟩
     refine wp_region_last_drew (ds := [11]) (S := fun W' => W'.heap[gr]? = some ob ∧ W'.heap[g3]? = some (.cells #[.int .i64 p.f0, .string p.f1, .string p.f2] 86 (0, 0))) (by kernel_rfl) ⟨HOB.out, M3.out⟩ (fun hH => ?_)
     refine' yT 0 F ?_
     refine' yT 1 F ?_
     refine' yT 2 F ?_
     refine' yT 3 F ?_
     refine' yT 4 F ?_
     refine' yT 5 F ?_
     refine' yT 6 F ?_
     refine' yT 7 F ?_
     refine' yT 8 F ?_
     refine' yT 9 F ?_
     refine' yT 10 F ?_
     have cz : w3.drew.cell? ⟨gr, o.length * 3 + 1, none⟩ = some (.string r.f1) := c0
     have fz : w3.drew.frozen? ⟨gr, o.length * 3 + 1, none⟩ = false := FZ.out _
     refine' yL 11 (w1 := w3.drew.setCell ⟨gr, o.length * 3 + 1, none⟩ (.string (r.f1 ++ p.f1))) ?_
     refine done_ (by kernel_rfl) ?_
     have AP := mz (row_put (w := w3.drew) (base := base) (n := o.length + 1 + 1) (cap := cap) (L := (o ++ [r] ++ [q])) HO3.out o.length (by simp) 1 (by omega) (.string (r.f1 ++ p.f1)) ⟨r.f0, r.f1 ++ p.f1, r.f2⟩ (by simp [cellsP]))
     clear hH F cz fz c0
     generalize w3.drew.setCell ⟨gr, o.length * 3 + 1, none⟩ (.string (r.f1 ++ p.f1)) = w4 at AP ⊢
     go_wp2_with fail
     go_ret
     refine ⟨_, rfl, ?_⟩
     have e2 : addL (o ++ [r, q]) p = o ++ [⟨r.f0, r.f1 ++ p.f1, r.f2⟩, q] := by rw [show o ++ [r, q] = (o ++ [r]) ++ [q] by simp]; exact HV.out
     rw [e2, ← set_mid o r q _]
     exact ⟨AP.out.1, (AStep.of_below HB3.out HS.out).trans ((AStep.of_below (below_drew (Below.refl _ _)) (Nat.le_trans HS.out HB3.out.size)).trans AP.out.2)⟩
    have hr0 : r.f1.size = 0 := by omega
    have l_rf1 : r.f1.toList = [] := (toList_nil _).2 hr0
    have e_rf1 : r.f1.toList.isEmpty = true := by rw [l_rf1]; rfl
    have hv : addL ((o ++ [r]) ++ [q]) p = (o ++ [r]) ++ [p] ++ [q] := by rw [hs, if_neg (by rintro ⟨h, _⟩; exact hfg h), if_neg (by rintro ⟨h, _⟩; exact h y2), if_neg (by rintro ⟨_, h⟩; exact hq h), if_pos ⟨hb1, hq2⟩]; simp [hr0]
    have HV := mz hv
    obtain ⟨i0, hi, hz0, hz1, hz2⟩ := info_parts info86
    have HI := mz hi
    have HZ0 := mz hz0
    have HZ1 := mz hz1
    have HZ2 := mz hz2
    clear hi hz0 hz1 hz2
    clear hv hs hz hp y2 hb1 hq hq1 hq2 z0 hr hr0
    obtain ⟨gr, cap, rfl, hgr, r0', r1', r2', _⟩ := row_at HO.out (o ++ [r]).length (by simp)
    simp only [List.getElem_append_right (Nat.le_refl (o ++ [r]).length), Nat.sub_self, List.getElem_cons_zero, List.length_append, List.length_cons, List.length_nil, Nat.zero_add, Nat.zero_mul] at r0' r1' r2'
    simp only [List.length_append, List.length_cons, List.length_nil, Nat.zero_add] at HO
    have HQ1 := mz (HQ.out q (by simp))
    have ho9 : (o.length + 1) ≤ 900000 := by have := HN9.out; simp at this; omega
    have HGR := mz hgr
    go_enter Try.func100, Try.ntmps100
    go_upto_region 6 with ((with_reducible refine gate_dst (N := 3) rfl ?_); refine bx 3 #[.int .i64 p.f0, .string p.f1, .string p.f2] 86 ?_; intro g3 hg w1 hbox hb1; have HG3 := mz hg; have HB1 := mz hb1; have K3 := mz hbox; have HO1 := mz (HO.out.below hb1); obtain ⟨x0, x1, x2⟩ := cells3 hbox; clear hg hbox hb1)
    have r0 := cell_step r0' HB1.out
    have r1 := cell_step r1' HB1.out
    have r2 := cell_step r2' HB1.out
    clear r0' r1' r2' x0 x1 x2
    obtain ⟨q0, q1, q2, q3⟩ := HQ1.out
    go_upto_region 8 with ((with_reducible refine gate_dst (N := 6) rfl ?_); refine bx 6 #[.int .i64 0, .string ⟨#[]⟩, .string ⟨#[]⟩] 86 ?_; intro g6 hg w2 hbox hb1; have HG6 := mz hg; have HB2 := mz hb1; have K6 := mz hbox; have HO2 := mz (HO1.out.below hb1); have K3' := mz (blk_below K3.out hb1); have v0 := cell_step r0 hb1; have v1 := cell_step r1 hb1; have v2 := cell_step r2 hb1; obtain ⟨t0, t1, t2⟩ := cells3 hbox; obtain ⟨t3, t4, t5⟩ := froz3 hbox; clear hg hbox hb1 r0 r1 r2)
    have M6 := mz (fillP K6.out rfl q.f0 q.f1 q.f2)
    have B3 := mz (belowP (Below.refl w1.heap.size w2) (Nat.le_of_eq HG6.out.symm) (.int .i64 q.f0) (.string q.f1) (.string q.f2))
    have HB3 := mz (below_step HB1.out (HB2.out.trans B3.out))
    have HO3 := mz (HO1.out.below (HB2.out.trans B3.out))
    have M3 := mz (blk_below K3.out (HB2.out.trans B3.out))
    clear v0 v1 v2 t0 t1 t2 t3 t4 t5 K6 K3' K3 B3 HO2
    generalize (((w2.setCell ⟨g6, 0, none⟩ (.int .i64 q.f0)).setCell ⟨g6, 1, none⟩ (.string q.f1)).setCell ⟨g6, 2, none⟩ (.string q.f2)) = w3 at M6 HB3 HO3 M3 ⊢
    obtain ⟨x0, x1, x2⟩ := cells3 M3.out
    obtain ⟨t0, t1, t2⟩ := cells3 M6.out
    have hgr6 : g6 ≠ gr := fun e => by have h1 := HGR.out; have h2 := HG6.out; have h3 := HB1.out.size; omega
    have hgr3 : g3 ≠ gr := fun e => by have h1 := HGR.out; have h2 := HG3.out; omega
    obtain ⟨gr', cap', e, _, rn0, rn1, rn2, rf⟩ := row_at HO3.out o.length (by simp)
    injection e with e e2 e3
    clear e2 e3
    injection e with e
    injection e with e
    subst e
    simp only [get_mid] at rn0 rn1 rn2
    clear rn0 rn2 rf
    go_upto_region 18 with fail
    clear rn1
    obtain ⟨gr', cap', e, _, rr0, rr1, rr2, rf⟩ := row_at HO3.out (o ++ [r]).length (by simp)
    injection e with e e2 e3
    clear e2 e3
    injection e with e
    injection e with e
    subst e
    simp only [List.getElem_append_right (Nat.le_refl (o ++ [r]).length), Nat.sub_self, List.getElem_cons_zero, List.length_append, List.length_cons, List.length_nil, Nat.zero_add, Nat.zero_mul] at rr0 rr1 rr2
    have f0 := rf ((o.length + 1) * 3)
    have f1 := rf ((o.length + 1) * 3 + 1)
    have f2 := rf ((o.length + 1) * 3 + 2)
    clear rf
    go_upto_region 19 with fail
    have ap := row_put3 (n := o.length + 1 + 1) (cap := cap) HO3.out (Nat.le_trans HS.out HB3.out.size) (o ++ [r]).length (by simp) p
    rw [set_last] at ap
    simp only [List.length_append, List.length_cons, List.length_nil, Nat.zero_add, Nat.zero_mul] at ap
    have AP := mz ap
    clear ap rr0 rr1 rr2 f0 f1 f2 x0 x1 x2 t0 t1 t2
    generalize (((w3.setCell ⟨gr, (o.length + 1) * 3, none⟩ (.int .i64 p.f0)).setCell ⟨gr, (o.length + 1) * 3 + 1, none⟩ (.string p.f1)).setCell ⟨gr, (o.length + 1) * 3 + 2, none⟩ (.string p.f2)) = w4 at AP ⊢
    have M6' := mz ((AP.out.2.kept.2 g6 (blk_lt M6.out) (fun e => by injection e with e; exact hgr6 e)).trans M6.out)
    obtain ⟨t0, t1, t2⟩ := cells3 M6'.out
    have HO4 := mz AP.out.1
    have HN8 := HN9
    clear HN9
    have HN9 : Aside0 (((o ++ [r]) ++ [p]).length ≤ 900000) := ⟨by have h8 := HN8.out; rw [List.length_append] at h8 ⊢; exact h8⟩
    go_wp2_with (at_builtin; refine wpList_append_lies _ rfl (.tmp 137) (.tmp 139) 34 rfl base 86 i0 (.agg #[.int .i64 0, .string ⟨#[]⟩, .string ⟨#[]⟩]) 3 40 Try.underlying34 HI.out HZ0.out HZ1.out HZ2.out rfl (by decide) (.slice (some ⟨gr, 0, none⟩) (o.length + 1 + 1) cap) ((o ++ [r]) ++ [p]).length (((o ++ [r]) ++ [p]).flatMap cellsP) (by rfl) (own_alloc HO4.out _) ⟨w4.heap.size, 0, none⟩ 1 1 (cellsP q) (by rfl) rfl (cells_new _ _ _) (fun u hu => cells_one [q] u (by simpa using hu)) (by omega) (by unfold maxLen; have := HN9.out; omega) (by have := HN9.out; omega) (Nat.le_trans (Nat.le_trans (Nat.le_trans HS.out HB3.out.size) AP.out.2.below.size) (by simp)) _ rfl ?_; intro g1 cap1 w5 ho hg hat hlt; have HAP := mz (add_app HO4.out (Nat.le_trans (Nat.le_trans HS.out HB3.out.size) AP.out.2.below.size) ho hg (hat.imp id (fun h => h.trans (by simp)))); clear ho hg hat hlt)
    go_ret
    refine ⟨_, rfl, ?_⟩
    have e2 : addL (o ++ [r, q]) p = o ++ [r] ++ [p] ++ [q] := by rw [show o ++ [r, q] = (o ++ [r]) ++ [q] by simp]; exact HV.out
    rw [e2]
    have hx := HAP.out
    simp only [List.length_append, List.length_cons, List.length_nil, Nat.zero_add] at hx
    exact ⟨hx.1, (AStep.of_below HB3.out HS.out).trans (AP.out.2.trans hx.2)⟩
   have hq0 : q.f2.size = 0 := by omega
   have l_qf2 : q.f2.toList = [] := (toList_nil _).2 hq0
   have e_qf2 : q.f2.toList.isEmpty = true := by rw [l_qf2]; rfl
   have hv : addL (o ++ [q]) p = o ++ [q] ++ [p] := by rw [hs, if_neg (by rintro ⟨h, _⟩; exact hfg h), if_neg (by rintro ⟨h, _⟩; exact h y2), if_neg (by rintro ⟨_, h⟩; exact hq h), if_neg (by rintro ⟨_, h⟩; exact hq2 h)]
   have HV := mz hv
   obtain ⟨i0, hi, hz0, hz1, hz2⟩ := info_parts info86
   have HI := mz hi
   have HZ0 := mz hz0
   have HZ1 := mz hz1
   have HZ2 := mz hz2
   clear hi hz0 hz1 hz2
   clear hv hs hz hp y2 hb1 hq hq0 hq1 hq2 z0
   obtain ⟨gr, cap, rfl, hgr, r0', r1', r2', _⟩ := row_at HO.out o.length (by simp)
   simp only [List.getElem_append_right (Nat.le_refl o.length), Nat.sub_self, List.getElem_cons_zero] at r0' r1' r2'
   simp only [List.length_append, List.length_cons, List.length_nil, Nat.zero_add] at HO
   have HQ1 := mz (HQ.out q (by simp))
   have ho9 : o.length ≤ 900000 := by have := HN9.out; simp at this; omega
   have HGR := mz hgr
   go_enter Try.func100, Try.ntmps100
   go_upto_region 6 with ((with_reducible refine gate_dst (N := 3) rfl ?_); refine bx 3 #[.int .i64 p.f0, .string p.f1, .string p.f2] 86 ?_; intro g3 hg w1 hbox hb1; have HG3 := mz hg; have HB1 := mz hb1; have K3 := mz hbox; have HO1 := mz (HO.out.below hb1); obtain ⟨x0, x1, x2⟩ := cells3 hbox; clear hg hbox hb1)
   have r0 := cell_step r0' HB1.out
   have r1 := cell_step r1' HB1.out
   have r2 := cell_step r2' HB1.out
   clear r0' r1' r2' x0 x1 x2
   obtain ⟨q0, q1, q2, q3⟩ := HQ1.out
   go_upto_region 8 with ((with_reducible refine gate_dst (N := 6) rfl ?_); refine bx 6 #[.int .i64 0, .string ⟨#[]⟩, .string ⟨#[]⟩] 86 ?_; intro g6 hg w2 hbox hb1; have HG6 := mz hg; have HB2 := mz hb1; have K6 := mz hbox; have HO2 := mz (HO1.out.below hb1); have K3' := mz (blk_below K3.out hb1); have v0 := cell_step r0 hb1; have v1 := cell_step r1 hb1; have v2 := cell_step r2 hb1; obtain ⟨t0, t1, t2⟩ := cells3 hbox; obtain ⟨t3, t4, t5⟩ := froz3 hbox; clear hg hbox hb1 r0 r1 r2)
   have M6 := mz (fillP K6.out rfl q.f0 q.f1 q.f2)
   have B3 := mz (belowP (Below.refl w1.heap.size w2) (Nat.le_of_eq HG6.out.symm) (.int .i64 q.f0) (.string q.f1) (.string q.f2))
   have HB3 := mz (below_step HB1.out (HB2.out.trans B3.out))
   have HO3 := mz (HO1.out.below (HB2.out.trans B3.out))
   have M3 := mz (blk_below K3.out (HB2.out.trans B3.out))
   clear v0 v1 v2 t0 t1 t2 t3 t4 t5 K6 K3' K3 B3 HO2
   generalize (((w2.setCell ⟨g6, 0, none⟩ (.int .i64 q.f0)).setCell ⟨g6, 1, none⟩ (.string q.f1)).setCell ⟨g6, 2, none⟩ (.string q.f2)) = w3 at M6 HB3 HO3 M3 ⊢
   obtain ⟨x0, x1, x2⟩ := cells3 M3.out
   obtain ⟨t0, t1, t2⟩ := cells3 M6.out
   go_wp2_with (at_builtin; refine wpList_append_lies _ rfl (.tmp 36) (.tmp 38) 34 rfl base 86 i0 (.agg #[.int .i64 0, .string ⟨#[]⟩, .string ⟨#[]⟩]) 3 40 Try.underlying34 HI.out HZ0.out HZ1.out HZ2.out rfl (by decide) (.slice (some ⟨gr, 0, none⟩) (o.length + 1) cap) (o ++ [q]).length ((o ++ [q]).flatMap cellsP) (by rfl) (own_alloc HO3.out _) ⟨w3.heap.size, 0, none⟩ 1 1 (cellsP p) (by rfl) rfl (cells_new _ _ _) (fun u hu => cells_one [p] u (by simpa using hu)) (by omega) (by unfold maxLen; have := HN9.out; omega) (by have := HN9.out; omega) (Nat.le_trans (Nat.le_trans HS.out HB3.out.size) (by simp)) _ rfl ?_; intro g1 cap1 w4 ho hg hat hlt; have HAP := mz (add_app HO3.out (Nat.le_trans HS.out HB3.out.size) ho hg (hat.imp id (fun h => h.trans (by simp)))); clear ho hg hat hlt)
   go_ret
   refine ⟨_, rfl, ?_⟩
   rw [HV.out]
   skip
   have hx := HAP.out
   simp only [List.length_append, List.length_cons, List.length_nil, Nat.zero_add] at hx
   exact ⟨hx.1, (AStep.of_below HB3.out HS.out).trans hx.2⟩
theorem R_of_own {w' : World} {base : Nat} {v : Value} {l : List Part} (ok : Nat → Prop) (hok : ∀ k, v.ownBlock = some k → ok k) (h : OwnP base w' v l) : Kd.R k86 86 w' base ok v l :=
 ⟨hok, _, h, by rw [flat_length cellsP 3 cellsP_len]; rfl, fun j p hj => by
  have hsz : k86.sz = 3 := rfl
  rw [hsz, flat_chunk cellsP 3 cellsP_len l j p hj]
  exact k86_mkM _ _ _ p⟩
set_option maxHeartbeats 4000000 in
theorem rs_done (g : Nat) (A : Option Addr) (c : Nat) (l : List Part) (w : World) (h : IsRd 157 w g A c l) :
  Calls Try.prog 128 #[.pointer (some ⟨g, 0, none⟩)] w fun e w' => e = .returned (.bool ((l.length : Int) == 0)) ∧ Below w.heap.size w w' := by
 have c0 := rd_cell h
 clear h
 go_enter Try.func128, Try.ntmps128
 go_wp2_with fail
 go_ret
 exact ⟨rfl, Below.refl _ _⟩
set_option maxHeartbeats 4000000 in
theorem rs_size (g : Nat) (A : Option Addr) (c : Nat) (p : Part) (xs : List Part) (w : World) (h : IsRd 157 w g A c (p :: xs)) (hs : smallQ 1000000 p) :
  Calls Try.prog 130 #[.pointer (some ⟨g, 0, none⟩)] w fun e w' => e = .returned (.int .i64 (sizeP p : Int)) ∧ Below w.heap.size w w' := by
 have c0 := rd_cell h
 obtain ⟨ad, rfl, y0, y1, y2⟩ := rd_first h.row
 simp only [List.length_cons] at c0
 obtain ⟨s0, s1, s2, s3⟩ := hs
 have e : (sizeP p : Int) = p.f0 + (p.f1.size : Int) + (p.f2.size : Int) := by unfold sizeP; push_cast; omega
 have HE := mz e
 have hw1 : IntKind.i64.wrap (p.f0 + (p.f1.size : Int)) = p.f0 + (p.f1.size : Int) := by rw [i64_w, w64 (by omega) (by omega)]
 have hw2 : IntKind.i64.wrap (p.f0 + (p.f1.size : Int) + (p.f2.size : Int)) = p.f0 + (p.f1.size : Int) + (p.f2.size : Int) := by rw [i64_w, w64 (by omega) (by omega)]
 clear h e
 go_enter Try.func130, Try.ntmps130
 go_wp2_with fail
 have F : ∀ W' : World, W' = w.drew → W'.cell? ⟨g, 0, none⟩ = some (.slice (some ad) (xs.length + 1) c) ∧ W'.cell? ad = some (.int .i64 p.f0) ∧ W'.cell? ⟨ad.block, ad.off + 1, none⟩ = some (.string p.f1) ∧ W'.cell? ⟨ad.block, ad.off + 2, none⟩ = some (.string p.f2) := fun W' hb => by subst hb; exact ⟨c0, y0, y1, y2⟩
 refine wp_region_held_drew (S := fun W' => W' = w.drew) (by kernel_rfl) rfl (fun hH => ?_)
 refine' tF 0 F ?_
 refine' tF 1 F ?_
 refine' tF 2 F ?_
 refine' tF 3 F ?_
 refine' tF 4 F ?_
 refine' tF 5 F ?_
 refine' tF 6 F ?_
 refine' tF 7 F ?_
 refine' tF 8 F ?_
 refine' tF 9 F ?_
 refine' tF 10 F ?_
 refine' tF 11 F ?_
 refine' tF 12 F ?_
 refine' tF 13 F ?_
 refine' tF 14 F ?_
 refine' tF 15 F ?_
 refine' tF 16 F ?_
 refine' tF 17 F ?_
 refine' tF 18 F ?_
 refine' tF 19 F ?_
 refine' tF 20 F ?_
 refine' tF 21 F ?_
 refine' tF 22 F ?_
 refine' tF 23 F ?_
 refine' tF 24 F ?_
 refine' tF 25 F ?_
 refine wpAnyH_done (by kernel_rfl) ?_ _
 go_wp2_with fail
 go_ret
 exact ⟨by rw [HE.out]; rfl, below_drew (Below.refl _ _)⟩
theorem rs_app {w5 w6 : World} {base : Nat} {v6 : Value} {p : Part} {xs : List Part} (hb : base ≤ w5.heap.size) (ho : w6.ownsRow base 86 3 v6 (0 + (xs.length + 1)) ([] ++ (p :: xs).flatMap cellsP)) (hg : (w5.alloc (.cells #[] 86)).grownBy w6 (Value.slice (some ⟨w5.heap.size, 0, none⟩) 0 0).ownBlock)
  (hat : v6.ownBlock = (Value.slice (some ⟨w5.heap.size, 0, none⟩) 0 0).ownBlock ∨ v6.ownBlock = some (w5.alloc (.cells #[] 86)).heap.size) : Below w5.heap.size w5 w6 ∧ OwnP base w6 v6 (p :: xs) ∧ ∀ k, v6.ownBlock = some k → w5.heap.size ≤ k := by
 refine ⟨(below_alloc (Below.refl w5.heap.size w5) _).grown hg (by simp) (fun k hk => by have : w5.heap.size = k := Option.some.inj hk; omega), ?_, fun k hk => ?_⟩
 ·unfold OwnP; rw [Nat.zero_add, List.nil_append] at ho; exact ho
 ·rcases hat with e | e
  ·rw [e] at hk; have : w5.heap.size = k := Option.some.inj hk; omega
  ·rw [e] at hk; injection hk with hk; rw [← hk]; simp
theorem rs_fin {t : TypeId} {w w8 : World} {base g gr : Nat} {A : Option Addr} {v6 u : Value} {l : List Part} (hB : Below w.heap.size w w8) (hs : base ≤ w.heap.size) (hg : base ≤ g) (hblk : w8.heap[g]? = some (.cells #[u] t (0, 0))) (hO : OwnP base w8 v6 l) (hgr : v6.ownBlock = some gr) (hge : w.heap.size ≤ gr) (hgl : g < w.heap.size) :
  ∃ A' c', IsRd t (w8.setCell ⟨g, 0, none⟩ v6) g A' c' l ∧ RStep base g A A' w (w8.setCell ⟨g, 0, none⟩ v6) ∧ ∀ a, A' = some a → a.block = gr := by
 have hR := R_of_flat (l := l) hO
 obtain ⟨A', c', rfl, hc, hC⟩ := Kd.R_reads hR
 have hb : ∀ a, A' = some a → a.block = gr := fun a e => by subst e; injection hgr
 refine ⟨A', c', ⟨blk_put hblk 0 _ rfl, C_move hC (fun a e => Below.heap_setCell _ _ _ _ (by have := hb a e; show a.block ≠ g; omega)), hc⟩, ⟨(hB.mono hs).setCell hg _, Kept.setCell (S := fun k => k = g) (p := ⟨g, 0, none⟩) (Kept.of_below hB _) (.inl rfl) _, fun a e => .inr (by rw [hb a e]; exact hge)⟩, hb⟩
theorem row_none (W : World) (base : Nat) (hb : base ≤ W.heap.size) : (W.alloc (.cells #[] 86)).ownsRow base 86 3 (.slice (some ⟨W.heap.size, 0, none⟩) 0 0) 0 [] := by
 have h2 := World.ownsRow_lit (base := base) (e := 86) (size := 3) W #[] 0 hb (by unfold maxLen; omega) (by rfl)
 simpa using h2
theorem first_full {p : Part} (hp : fullP p) : firstP p (sizeP p) = p ∧ ∀ xs, cutL p xs (sizeP p) = xs := by
 obtain ⟨hp, hs⟩ := hp
 by_cases a : 0 < p.f0
 ·have e := pure_keep hp a
  have hz : sizeP p = p.f0.toNat := by rw [e]; simp [sizeP, noB_size]
  have h0 : ((p.f0.toNat : Nat) : Int) = p.f0 := Int.toNat_of_nonneg (by omega)
  have e1 : p.f1 = noB := by rw [e]
  have e2 : p.f2 = noB := by rw [e]
  refine ⟨by rw [first_keep a hp, hz, h0]; exact e.symm, fun xs => ?_⟩
  unfold cutL
  rw [if_pos (by unfold restQ zeroP; rw [if_pos a, hz, h0]; simp [e1, e2, noB_size])]
 ·have z : p.f0 = 0 := by have := hp.1; omega
  by_cases b : p.f1.size = 0
  ·have c : p.f2.size ≠ 0 := by simp only [sizeP] at hs; omega
   have e := pure_drop hp c
   have hz : sizeP p = p.f2.size := by simp only [sizeP, z, b]; simp
   refine ⟨by rw [first_drop hp c, hz]; rw [show p.f2.extract 0 p.f2.size = p.f2 from bd_ext (by simp)]; exact e.symm, fun xs => ?_⟩
   unfold cutL
   rw [if_pos (by unfold restQ zeroP; rw [if_neg a, if_neg (fun h => h b), hz]; simp [z, b])]
  ·have e := pure_put hp b
   have y := hp.2.2 b
   have hz : sizeP p = p.f1.size := by simp only [sizeP, z, y]; simp
   refine ⟨by rw [first_put hp b, hz]; rw [show p.f1.extract 0 p.f1.size = p.f1 from bd_ext (by simp)]; exact e.symm, fun xs => ?_⟩
   unfold cutL
   rw [if_pos (by unfold restQ zeroP; rw [if_neg a, if_pos b, hz]; simp [z, y])]
theorem cut_left {p : Part} {xs : List Part} {n : Nat} (hp : fullP p) (hn : n < sizeP p) : cutL p xs n = restQ p n :: xs := by
 have hl := cutL_len (xs := xs) n hp (by omega)
 unfold cutL at hl ⊢
 cases z : zeroP (restQ p n) with
 | false => rfl
 | true => rw [z, if_pos rfl, unitsL_len_cons] at hl; omega
set_option maxHeartbeats 8000000 in
set_option maxRecDepth 100000 in
theorem rs_take (base g : Nat) (A : Option Addr) (c : Nat) (p : Part) (xs : List Part) (w : World) (h : IsRd 157 w g A c (p :: xs)) (hg : base ≤ g) (n : Nat) (hn : n ≤ sizeP p) (hp : okP p) (hx : xs.length ≤ 100000) :
  Calls Try.prog 129 #[.pointer (some ⟨g, 0, none⟩), .int .i64 n] w fun e w' => e = .returned (partV (firstP p n)) ∧ RdPost 157 base g A (cutL p xs n) w w' := by
 have hR0 := h.row
 obtain ⟨ad, rfl, q0, q1, q2⟩ := rd_first hR0
 have c0 := rd_cell h
 simp only [List.length_cons] at c0
 have HR := mz h
 have HGB := mz hg
 have HS : Aside0 (base ≤ w.heap.size) := ⟨by have := blk_lt h.blk; omega⟩
 have HP := mz hp
 have HPL : sizeP p ≤ 300 := hp.le
 clear h hg hR0
 go_enter Try.func129, Try.ntmps129
 go_upto_region 2 with (first | ((with_reducible refine gate_dst (N := 4) rfl ?_); refine bx 4 #[.int .i64 0, .string ⟨#[]⟩, .string ⟨#[]⟩] 86 ?_; intro g4 hg w1 hbox hb; have HGg4 := mz hg; have Bw1 := mz hb; have Kg4 := mz hbox; obtain ⟨x0, x1, x2⟩ := cells3 hbox; obtain ⟨xf0, xf1, xf2⟩ := froz3 hbox; have c0_ := cell_step c0 hb; have q0_ := cell_step q0 hb; have q1_ := cell_step q1 hb; have q2_ := cell_step q2 hb; clear c0 q0 q1 q2; have c0 := c0_; have q0 := q0_; have q1 := q1_; have q2 := q2_; clear c0_ q0_ q1_ q2_ hg hb hbox) | ((with_reducible refine gate_dst (N := 5) rfl ?_); refine bx 5 #[.int .i64 0, .string ⟨#[]⟩, .string ⟨#[]⟩] 86 ?_; intro g5 hg w2 hbox hb; have HGg5 := mz hg; have Bw2 := mz hb; have Kg5 := mz hbox; obtain ⟨y0, y1, y2⟩ := cells3 hbox; obtain ⟨yf0, yf1, yf2⟩ := froz3 hbox; have c0_ := cell_step c0 hb; have q0_ := cell_step q0 hb; have q1_ := cell_step q1 hb; have q2_ := cell_step q2 hb; clear c0 q0 q1 q2; have c0 := c0_; have q0 := q0_; have q1 := q1_; have q2 := q2_; clear c0_ q0_ q1_ q2_ hg hb hbox))
 have K4a := mz (blk_below Kg4.out Bw2.out)
 have G45 : Aside0 (g4 < g5) := ⟨by have h1 := blk_lt Kg4.out; have := HGg5.out; omega⟩
 have M5 := mz (fillP Kg5.out rfl p.f0 p.f1 p.f2)
 have M4 := mz (farP K4a.out (show g4 ≠ g5 by have := G45.out; omega) (.int .i64 p.f0) (.string p.f1) (.string p.f2))
 have B4 := mz (belowP (Bw1.out.trans (Bw2.out.mono Bw1.out.size)) (show w.heap.size ≤ g5 by have h1 := HGg5.out; have h2 := Bw1.out.size; omega) (.int .i64 p.f0) (.string p.f1) (.string p.f2))
 clear x0 x1 x2 xf0 xf1 xf2 y0 y1 y2 yf0 yf1 yf2 c0 q0 q1 q2
 generalize (((w2.setCell ⟨g5, 0, none⟩ (.int .i64 p.f0)).setCell ⟨g5, 1, none⟩ (.string p.f1)).setCell ⟨g5, 2, none⟩ (.string p.f2)) = w4 at M5 M4 B4 ⊢
 have HG4 := HGg4
 have HG5 : Aside0 (w.heap.size ≤ g5) := ⟨by have h1 := HGg5.out; have h2 := Bw1.out.size; omega⟩
 clear Kg4 Kg5 K4a Bw1 Bw2 HGg4 HGg5
 go_wp2_with fail
 refine (rs_size g (some ad) c p xs w4 (HR.out.below B4.out) (HP.out.2.mono (by omega))).mono ?_
 rintro e w5 ⟨rfl, hb⟩
 have B5 := mz (below_step B4.out hb)
 have N5 := mz (blk_below M5.out hb)
 have N4 := mz (blk_below M4.out hb)
 have HR5 := mz (HR.out.below (below_step B4.out hb))
 clear hb M5 M4 B4
 have c0 : w5.cell? ⟨g, 0, none⟩ = some (.slice (some ad) (xs.length + 1) c) := rd_cell HR5.out
 have fz := blk_frozen HR5.out.blk 0
 have hcap := HR5.out.cap
 simp only [List.length_cons] at hcap
 by_cases he : n = sizeP p
 ·have hF := first_full HP.out.1
  rw [← he] at hF
  have HF := mz hF.1
  have HCU := mz (hF.2 xs)
  have heq : ((n : Int) == (sizeP p : Int)) = true := by rw [he]; simp
  have heq2 : (n : Int) = (sizeP p : Int) := by rw [he]
  clear hF he
  go_upto_region 3 with fail
  obtain ⟨A', c', hA', hc', hR9, hS9⟩ := rd_adv HR5.out base HGB.out
  have ne4 : g4 ≠ g := fun e => by have := blk_lt HR.out.blk; have := HG4.out; omega
  have ne5 : g5 ≠ g := fun e => by have := blk_lt HR.out.blk; have := HG5.out; omega
  have M4 := mz (blk_far (p := ⟨g, 0, none⟩) N4.out ne4 (.slice (if c = 1 then some ad else (some ad).map (·.add 3)) xs.length (c - 1)))
  have M5 := mz (blk_far (p := ⟨g, 0, none⟩) N5.out ne5 (.slice (if c = 1 then some ad else (some ad).map (·.add 3)) xs.length (c - 1)))
  have HR9 := mz hR9
  have HS9 := mz ((RStep.of_below (g := g) (A := some ad) B5.out HS.out).trans hS9)
  have HNA : Aside0 (∀ a, A' = some a → a.block ≠ g4) := ⟨fun a e => by rw [hA'] at e; obtain ⟨b, hb2, e2⟩ := (rd_rest HR.out).2.2 a e; obtain ⟨b', hb3, hlt⟩ := C_addr HR.out.row (by simp); rw [hb2] at hb3; injection hb3 with hb3; subst hb3; rw [e2]; have := HG4.out; omega⟩
  clear hA' hc' hR9 hS9
  obtain ⟨Av, hAv⟩ : ∃ Av, (if c = 1 then some ad else (some ad).map (·.add 3)) = Av := ⟨_, rfl⟩
  rw [hAv] at M4 M5 HR9 HS9
  have HAV := mz hAv
  clear hAv
  go_upto_region 4 with fail
  have HE : (if c = 1 then some ad else some (⟨ad.block, ad.off + 3, none⟩ : Addr)) = Av := (show_add c (some ad)).trans HAV.out
  rw [HE]
  clear HE
  generalize w5.setCell ⟨g, 0, none⟩ (.slice Av xs.length (c - 1)) = w9 at M4 M5 HR9 HS9 ⊢
  clear c0 fz
  obtain ⟨u0, u1, u2⟩ := cells3 M5.out
  obtain ⟨t0, t1, t2⟩ := cells3 M4.out
  obtain ⟨t3, t4, t5⟩ := froz3 M4.out
  go_wp2_with fail
  have hfin := fillP M4.out rfl (p.f0) (p.f1) (p.f2)
  refine bodyPost_ret (results_cell_row rfl _ _ g4 86 #[.int .i64 (p.f0), .string (p.f1), .string (p.f2)] (0, 0) _ rfl hfin Try.underlying86 rfl (by kernel_rfl)) rfl ?_
  rw [HCU.out]
  refine ⟨by rw [HF.out]; rfl, _, _, rd_tail (A := some ad) (w := w) HR9.out HS9.out HS.out (blk_lt HR.out.blk) M4.out HG4.out (fun a e => HNA.out a e) _ _ _⟩
 have hlt : n < sizeP p := by omega
 have HCU := mz (cut_left (xs := xs) HP.out.1 hlt)
 have hne1 : ((n : Int) == (sizeP p : Int)) = false := by simp; omega
 have hne2 : ¬ (n : Int) = (sizeP p : Int) := by omega
 have HLT := mz hlt
 clear he hlt
 obtain ⟨i0, hi, hz0, hz1, hz2⟩ := info_parts info86
 have HI := mz hi
 have HZ0 := mz hz0
 have HZ1 := mz hz1
 have HZ2 := mz hz2
 clear hi hz0 hz1 hz2
 have hbs5 : base ≤ w5.heap.size := Nat.le_trans HS.out B5.out.size
 have hCr := clone_cells HR5.out.row
 have HCR := mz hCr
 clear hCr
 have cA : (w5.alloc (.cells #[] 86)).cell? ⟨g, 0, none⟩ = some (.slice (some ad) (xs.length + 1) c) := Lib.cell?_alloc_some _ c0
 go_upto_region 8 with (at_builtin; refine wpList_append_own_at _ rfl (.tmp 26) (.tmp 30) 34 rfl base 86 i0 (.agg #[.int .i64 0, .string ⟨#[]⟩, .string ⟨#[]⟩]) 3 40 Try.underlying34 HI.out HZ0.out HZ1.out HZ2.out rfl (by decide) (.slice (some ⟨w5.heap.size, 0, none⟩) 0 0) 0 [] (by rfl) (row_none w5 base hbs5) ad (xs.length + 1) c ((p :: xs).flatMap cellsP) (by rfl) (by rw [flat_length cellsP 3 cellsP_len]; rfl) (fun j u hj => Lib.cell?_alloc_some _ (HCR.out j u hj)) (cells_one (p :: xs)) (by unfold maxLen; omega) (by omega) (Nat.le_trans hbs5 (by simp)) ?_; intro v6 w6 ho hgr _ hat; have HO := mz ho; have HGRW := mz hgr; have HAT := mz hat; clear ho hgr hat)
 obtain ⟨b56, o6, hk6⟩ := rs_app hbs5 HO.out HGRW.out HAT.out
 obtain ⟨gr, cap, hv6, hgrl, r0, r1, r2, rf⟩ := row_at o6 0 (by simp)
 simp only [Nat.zero_mul, Nat.zero_add, List.getElem_cons_zero] at r0 r1 r2
 have hgr5 : w5.heap.size ≤ gr := hk6 gr (by rw [hv6]; rfl)
 have HV6 := mz hv6
 subst hv6
 have B6 := mz (below_step B5.out b56)
 have P5 := mz (blk_below N5.out b56)
 have P4 := mz (blk_below N4.out b56)
 have PG := mz (blk_below HR5.out.blk b56)
 have O6 := mz o6
 have RF := mz rf
 have GR5 := mz hgr5
 have hn5 : g5 ≠ gr := fun e => by have := blk_lt N5.out; omega
 have hn5' := Ne.symm hn5
 have HGE : Aside0 (w.heap.size ≤ gr) := ⟨Nat.le_trans B5.out.size hgr5⟩
 have NG4 : Aside0 (g4 ≠ gr ∧ g4 ≠ g5 ∧ g ≠ gr ∧ g ≠ g5 ∧ g4 ≠ g ∧ g5 ≠ g) := ⟨by have h1 := blk_lt N4.out; have h2 := G45.out; have h3 := blk_lt HR.out.blk; have h4 := HG4.out; have h5 := HG5.out; have h6 := B5.out.size; omega⟩
 clear c0 cA fz HO HGRW HAT HCR b56 o6 hk6 rf hgr5 hgrl hbs5 N5 N4
 obtain ⟨y0, y1, y2⟩ := cells3 P5.out
 obtain ⟨z0, z1, z2⟩ := froz3 P5.out
 have f0 := RF.out 0
 have f1 := RF.out 1
 have f2 := RF.out 2
 have hpu := HP.out.1.1
 have hlt := HLT.out
 by_cases hk : 0 < p.f0
 ·have hkn : (n : Int) ≤ p.f0 := by have e := pure_keep hpu hk; rw [e] at hlt; simp [sizeP, noB_size] at hlt; omega
  have hwr : IntKind.i64.wrap (p.f0 - (n : Int)) = p.f0 - (n : Int) := by have := HP.out.2.2.1; rw [i64_w, w64 (by omega) (by omega)]
  have HF : Aside0 (firstP p n = ⟨n, p.f1, p.f2⟩) := ⟨by simp only [firstP, if_pos hk]⟩
  have hQ : restQ p n = ⟨p.f0 - n, p.f1, p.f2⟩ := by simp only [restQ, if_pos hk]
  have HCU0 := HCU.out
  rw [hQ] at HCU0
  clear HCU
  have HCU := mz HCU0
  clear hQ HCU0 hpu hlt
  go_upto_region 14 with fail
  have ap := row_put O6.out 0 (by simp) 0 (by omega) (.int .i64 (p.f0 - (n : Int))) (⟨p.f0 - (n : Int), p.f1, p.f2⟩ : Part) (by simp [cellsP])
  simp only [Nat.zero_mul, Nat.zero_add, List.set_cons_zero] at ap
  have O8 : Aside0 (OwnP base ((w6.setCell ⟨gr, 0, none⟩ (.int .i64 (p.f0 - (n : Int)))).setCell ⟨g5, 0, none⟩ (.int .i64 (n : Int))) (.slice (some ⟨gr, 0, none⟩) (xs.length + 1) cap) ((⟨p.f0 - (n : Int), p.f1, p.f2⟩ : Part) :: xs)) := ⟨own_setCell ap.1 (fun e => hn5 (Option.some.inj e)) _⟩
  have Q5 := mz (blk_put (cs' := #[.int .i64 ((n : Int)), .string (p.f1), .string (p.f2)]) (blk_far (p := ⟨gr, 0, none⟩) P5.out hn5 (.int .i64 (p.f0 - (n : Int)))) 0 (.int .i64 (n : Int)) rfl)
  have Q4 := mz (blk_far (p := ⟨g5, 0, none⟩) (blk_far (p := ⟨gr, 0, none⟩) P4.out NG4.out.1 (.int .i64 (p.f0 - (n : Int)))) NG4.out.2.1 (.int .i64 (n : Int)))
  have QG := mz (blk_far (p := ⟨g5, 0, none⟩) (blk_far (p := ⟨gr, 0, none⟩) PG.out NG4.out.2.2.1 (.int .i64 (p.f0 - (n : Int)))) NG4.out.2.2.2.1 (.int .i64 (n : Int)))
  have B8 := mz (below_set (j := 0) (v := .int .i64 (n : Int)) (below_set (j := 0) (v := .int .i64 (p.f0 - (n : Int))) B6.out HGE.out) HG5.out)
  clear ap y0 y1 y2 z0 z1 z2 f0 f1 f2 r0 r1 r2 hn5 hn5'
  generalize (w6.setCell ⟨gr, 0, none⟩ (.int .i64 (p.f0 - (n : Int)))).setCell ⟨g5, 0, none⟩ (.int .i64 (n : Int)) = w8 at O8 Q5 Q4 QG B8 ⊢
  obtain ⟨A', c', hR9, hS9, hA9⟩ := rs_fin (A := some ad) B8.out HS.out HGB.out QG.out O8.out rfl HGE.out (blk_lt HR.out.blk)
  have M4 := mz (blk_far (p := ⟨g, 0, none⟩) Q4.out NG4.out.2.2.2.2.1 (.slice (some ⟨gr, 0, none⟩) (xs.length + 1) cap))
  have M5 := mz (blk_far (p := ⟨g, 0, none⟩) Q5.out NG4.out.2.2.2.2.2 (.slice (some ⟨gr, 0, none⟩) (xs.length + 1) cap))
  have HR9 := mz hR9
  have HS9 := mz hS9
  have HNA : Aside0 (∀ a, A' = some a → a.block ≠ g4) := ⟨fun a e => by rw [hA9 a e]; exact Ne.symm NG4.out.1⟩
  clear hR9 hS9 hA9
  have cg := (blk_cell QG.out 0).trans rfl
  have fg := blk_frozen QG.out 0
  go_upto_region 15 with fail
  generalize w8.setCell ⟨g, 0, none⟩ (.slice (some ⟨gr, 0, none⟩) (xs.length + 1) cap) = w9 at M4 M5 HR9 HS9 ⊢
  clear cg fg
  obtain ⟨u0, u1, u2⟩ := cells3 M5.out
  obtain ⟨t0, t1, t2⟩ := cells3 M4.out
  obtain ⟨t3, t4, t5⟩ := froz3 M4.out
  go_wp2_with fail
  have hfin := fillP M4.out rfl ((n : Int)) (p.f1) (p.f2)
  refine bodyPost_ret (results_cell_row rfl _ _ g4 86 #[.int .i64 ((n : Int)), .string (p.f1), .string (p.f2)] (0, 0) _ rfl hfin Try.underlying86 rfl (by kernel_rfl)) rfl ?_
  rw [HCU.out]
  refine ⟨by rw [HF.out]; rfl, _, _, rd_tail (A := some ad) (w := w) HR9.out HS9.out HS.out (blk_lt HR.out.blk) M4.out HG4.out (fun a e => HNA.out a e) _ _ _⟩
 have hk0 : p.f0 = 0 := by have := hpu.1; omega
 by_cases hp1 : p.f1.size = 0
 ·have l_pf1 : p.f1.toList = [] := (toList_nil _).2 hp1
  have e_pf1 : p.f1.toList.isEmpty = true := by rw [l_pf1]; rfl
  have hne9 : ¬ p.f1.size ≠ 0 := fun h => h hp1
  have hnn : (n : Int) ≤ (p.f2.size : Int) := by simp only [sizeP, hk0, hp1] at hlt; simp at hlt; omega
  have hn2 : n ≤ p.f2.size := by omega
  have HF : Aside0 (firstP p n = ⟨p.f0, p.f1, p.f2.extract 0 n⟩) := ⟨by simp only [firstP, if_neg hk, if_neg hne9]⟩
  have hQ : restQ p n = ⟨p.f0, p.f1, p.f2.extract n p.f2.size⟩ := by simp only [restQ, if_neg hk, if_neg hne9]
  have HCU0 := HCU.out
  rw [hQ] at HCU0
  clear HCU
  have HCU := mz HCU0
  clear hQ HCU0 hpu hlt hk0 hp1 hne9
  go_upto_region 14 with fail
  have ap := row_put O6.out 0 (by simp) 2 (by omega) (.string (p.f2.extract n p.f2.size)) (⟨p.f0, p.f1, p.f2.extract n p.f2.size⟩ : Part) (by simp [cellsP])
  simp only [Nat.zero_mul, Nat.zero_add, List.set_cons_zero] at ap
  have O8 : Aside0 (OwnP base ((w6.setCell ⟨gr, 2, none⟩ (.string (p.f2.extract n p.f2.size))).setCell ⟨g5, 2, none⟩ (.string (p.f2.extract 0 n))) (.slice (some ⟨gr, 0, none⟩) (xs.length + 1) cap) ((⟨p.f0, p.f1, p.f2.extract n p.f2.size⟩ : Part) :: xs)) := ⟨own_setCell ap.1 (fun e => hn5 (Option.some.inj e)) _⟩
  have Q5 := mz (blk_put (cs' := #[.int .i64 (p.f0), .string (p.f1), .string (p.f2.extract 0 n)]) (blk_far (p := ⟨gr, 2, none⟩) P5.out hn5 (.string (p.f2.extract n p.f2.size))) 2 (.string (p.f2.extract 0 n)) rfl)
  have Q4 := mz (blk_far (p := ⟨g5, 2, none⟩) (blk_far (p := ⟨gr, 2, none⟩) P4.out NG4.out.1 (.string (p.f2.extract n p.f2.size))) NG4.out.2.1 (.string (p.f2.extract 0 n)))
  have QG := mz (blk_far (p := ⟨g5, 2, none⟩) (blk_far (p := ⟨gr, 2, none⟩) PG.out NG4.out.2.2.1 (.string (p.f2.extract n p.f2.size))) NG4.out.2.2.2.1 (.string (p.f2.extract 0 n)))
  have B8 := mz (below_set (j := 2) (v := .string (p.f2.extract 0 n)) (below_set (j := 2) (v := .string (p.f2.extract n p.f2.size)) B6.out HGE.out) HG5.out)
  clear ap y0 y1 y2 z0 z1 z2 f0 f1 f2 r0 r1 r2 hn5 hn5'
  generalize (w6.setCell ⟨gr, 2, none⟩ (.string (p.f2.extract n p.f2.size))).setCell ⟨g5, 2, none⟩ (.string (p.f2.extract 0 n)) = w8 at O8 Q5 Q4 QG B8 ⊢
  obtain ⟨A', c', hR9, hS9, hA9⟩ := rs_fin (A := some ad) B8.out HS.out HGB.out QG.out O8.out rfl HGE.out (blk_lt HR.out.blk)
  have M4 := mz (blk_far (p := ⟨g, 0, none⟩) Q4.out NG4.out.2.2.2.2.1 (.slice (some ⟨gr, 0, none⟩) (xs.length + 1) cap))
  have M5 := mz (blk_far (p := ⟨g, 0, none⟩) Q5.out NG4.out.2.2.2.2.2 (.slice (some ⟨gr, 0, none⟩) (xs.length + 1) cap))
  have HR9 := mz hR9
  have HS9 := mz hS9
  have HNA : Aside0 (∀ a, A' = some a → a.block ≠ g4) := ⟨fun a e => by rw [hA9 a e]; exact Ne.symm NG4.out.1⟩
  clear hR9 hS9 hA9
  have cg := (blk_cell QG.out 0).trans rfl
  have fg := blk_frozen QG.out 0
  go_upto_region 15 with fail
  generalize w8.setCell ⟨g, 0, none⟩ (.slice (some ⟨gr, 0, none⟩) (xs.length + 1) cap) = w9 at M4 M5 HR9 HS9 ⊢
  clear cg fg
  obtain ⟨u0, u1, u2⟩ := cells3 M5.out
  obtain ⟨t0, t1, t2⟩ := cells3 M4.out
  obtain ⟨t3, t4, t5⟩ := froz3 M4.out
  go_wp2_with fail
  have hfin := fillP M4.out rfl (p.f0) (p.f1) (p.f2.extract 0 n)
  refine bodyPost_ret (results_cell_row rfl _ _ g4 86 #[.int .i64 (p.f0), .string (p.f1), .string (p.f2.extract 0 n)] (0, 0) _ rfl hfin Try.underlying86 rfl (by kernel_rfl)) rfl ?_
  rw [HCU.out]
  refine ⟨by rw [HF.out]; rfl, _, _, rd_tail (A := some ad) (w := w) HR9.out HS9.out HS.out (blk_lt HR.out.blk) M4.out HG4.out (fun a e => HNA.out a e) _ _ _⟩
 have l_pf1 : ¬ (p.f1.toList = []) := fun e => hp1 ((toList_nil _).1 e)
 have e_pf1 : p.f1.toList.isEmpty = false := by cases hh : p.f1.toList with | nil => exact absurd hh l_pf1 | cons _ _ => rfl
 have y9 := hpu.2.2 hp1
 have hpp : p.f1.size ≠ 0 := hp1
 have hnn : (n : Int) ≤ (p.f1.size : Int) := by simp only [sizeP, hk0, y9] at hlt; simp at hlt; omega
 have hn2 : n ≤ p.f1.size := by omega
 have HF : Aside0 (firstP p n = ⟨p.f0, p.f1.extract 0 n, p.f2⟩) := ⟨by simp only [firstP, if_neg hk, if_pos hpp]⟩
 have hQ : restQ p n = ⟨p.f0, p.f1.extract n p.f1.size, p.f2⟩ := by simp only [restQ, if_neg hk, if_pos hpp]
 have HCU0 := HCU.out
 rw [hQ] at HCU0
 clear HCU
 have HCU := mz HCU0
 clear hQ HCU0 hpu hlt hk0 hp1 y9
 go_upto_region 14 with fail
 have ap := row_put O6.out 0 (by simp) 1 (by omega) (.string (p.f1.extract n p.f1.size)) (⟨p.f0, p.f1.extract n p.f1.size, p.f2⟩ : Part) (by simp [cellsP])
 simp only [Nat.zero_mul, Nat.zero_add, List.set_cons_zero] at ap
 have O8 : Aside0 (OwnP base ((w6.setCell ⟨gr, 1, none⟩ (.string (p.f1.extract n p.f1.size))).setCell ⟨g5, 1, none⟩ (.string (p.f1.extract 0 n))) (.slice (some ⟨gr, 0, none⟩) (xs.length + 1) cap) ((⟨p.f0, p.f1.extract n p.f1.size, p.f2⟩ : Part) :: xs)) := ⟨own_setCell ap.1 (fun e => hn5 (Option.some.inj e)) _⟩
 have Q5 := mz (blk_put (cs' := #[.int .i64 (p.f0), .string (p.f1.extract 0 n), .string (p.f2)]) (blk_far (p := ⟨gr, 1, none⟩) P5.out hn5 (.string (p.f1.extract n p.f1.size))) 1 (.string (p.f1.extract 0 n)) rfl)
 have Q4 := mz (blk_far (p := ⟨g5, 1, none⟩) (blk_far (p := ⟨gr, 1, none⟩) P4.out NG4.out.1 (.string (p.f1.extract n p.f1.size))) NG4.out.2.1 (.string (p.f1.extract 0 n)))
 have QG := mz (blk_far (p := ⟨g5, 1, none⟩) (blk_far (p := ⟨gr, 1, none⟩) PG.out NG4.out.2.2.1 (.string (p.f1.extract n p.f1.size))) NG4.out.2.2.2.1 (.string (p.f1.extract 0 n)))
 have B8 := mz (below_set (j := 1) (v := .string (p.f1.extract 0 n)) (below_set (j := 1) (v := .string (p.f1.extract n p.f1.size)) B6.out HGE.out) HG5.out)
 clear ap y0 y1 y2 z0 z1 z2 f0 f1 f2 r0 r1 r2 hn5 hn5'
 generalize (w6.setCell ⟨gr, 1, none⟩ (.string (p.f1.extract n p.f1.size))).setCell ⟨g5, 1, none⟩ (.string (p.f1.extract 0 n)) = w8 at O8 Q5 Q4 QG B8 ⊢
 obtain ⟨A', c', hR9, hS9, hA9⟩ := rs_fin (A := some ad) B8.out HS.out HGB.out QG.out O8.out rfl HGE.out (blk_lt HR.out.blk)
 have M4 := mz (blk_far (p := ⟨g, 0, none⟩) Q4.out NG4.out.2.2.2.2.1 (.slice (some ⟨gr, 0, none⟩) (xs.length + 1) cap))
 have M5 := mz (blk_far (p := ⟨g, 0, none⟩) Q5.out NG4.out.2.2.2.2.2 (.slice (some ⟨gr, 0, none⟩) (xs.length + 1) cap))
 have HR9 := mz hR9
 have HS9 := mz hS9
 have HNA : Aside0 (∀ a, A' = some a → a.block ≠ g4) := ⟨fun a e => by rw [hA9 a e]; exact Ne.symm NG4.out.1⟩
 clear hR9 hS9 hA9
 have cg := (blk_cell QG.out 0).trans rfl
 have fg := blk_frozen QG.out 0
 go_upto_region 15 with fail
 generalize w8.setCell ⟨g, 0, none⟩ (.slice (some ⟨gr, 0, none⟩) (xs.length + 1) cap) = w9 at M4 M5 HR9 HS9 ⊢
 clear cg fg
 obtain ⟨u0, u1, u2⟩ := cells3 M5.out
 obtain ⟨t0, t1, t2⟩ := cells3 M4.out
 obtain ⟨t3, t4, t5⟩ := froz3 M4.out
 go_wp2_with fail
 have hfin := fillP M4.out rfl (p.f0) (p.f1.extract 0 n) (p.f2)
 refine bodyPost_ret (results_cell_row rfl _ _ g4 86 #[.int .i64 (p.f0), .string (p.f1.extract 0 n), .string (p.f2)] (0, 0) _ rfl hfin Try.underlying86 rfl (by kernel_rfl)) rfl ?_
 rw [HCU.out]
 refine ⟨by rw [HF.out]; rfl, _, _, rd_tail (A := some ad) (w := w) HR9.out HS9.out HS.out (blk_lt HR.out.blk) M4.out HG4.out (fun a e => HNA.out a e) _ _ _⟩
structure CompJ (R : Option Mk) (xs ys : List Part) (m : Mk) : Prop where
 val : compU (unitsL xs) (unitsL ys) m = R
 fx : ∀ p ∈ xs, okP p
 fy : ∀ p ∈ ys, okP p
 tot : leftN xs ys ≤ 1300
 bnd : BndM m (400 * (1300 - leftN xs ys))
 inv : InvM m
section
variable {R : Option Mk} {xs ys : List Part} {p q : Part} {m : Mk}
theorem CompJ.drop (h : CompJ R (p :: xs) ys m) (hd : p.f2.size ≠ 0) : CompJ R xs ys (takeM m p) ∧ leftN xs ys + 1 ≤ leftN (p :: xs) ys := by
 have hp := h.fx p List.mem_cons_self
 have hl : leftN (p :: xs) ys = sizeP p + leftN xs ys := by unfold leftN; rw [unitsL_len_cons]; omega
 have h1 := hp.1.2
 have ht := h.tot
 refine ⟨⟨by rw [← comp_drop hp.1.1 hd]; exact h.val, fun q hq => h.fx q (List.mem_cons_of_mem _ hq), h.fy, by omega, (h.bnd.take p (hp.2.mono (C' := 400) (by omega)) (by omega)).mono (by omega), h.inv.take p hp.1.1.1⟩, by omega⟩
theorem CompJ.put (h : CompJ R xs (q :: ys) m) (hd : q.f1.size ≠ 0) : CompJ R xs ys (takeM m q) ∧ leftN xs ys + 1 ≤ leftN xs (q :: ys) := by
 have hp := h.fy q List.mem_cons_self
 have hl : leftN xs (q :: ys) = sizeP q + leftN xs ys := by unfold leftN; rw [unitsL_len_cons]; omega
 have h1 := hp.1.2
 have ht := h.tot
 refine ⟨⟨by rw [← comp_put hp.1.1 hd]; exact h.val, h.fx, fun x hq => h.fy x (List.mem_cons_of_mem _ hq), by omega, (h.bnd.take q (hp.2.mono (C' := 400) (by omega)) (by omega)).mono (by omega), h.inv.take q hp.1.1.1⟩, by omega⟩
theorem CompJ.both (h : CompJ R (p :: xs) (q :: ys) m) (h1 : p.f2.size = 0) (h2 : q.f1.size = 0) (n : Nat) (hn : n = min (sizeP p) (sizeP q)) :
  0 < n ∧ n ≤ sizeP p ∧ n ≤ sizeP q ∧ leftN (cutL p xs n) (cutL q ys n) + 1 ≤ leftN (p :: xs) (q :: ys) ∧ okP (firstP p n) ∧ okP (firstP q n) ∧
  (0 < q.f0 → CompJ R (cutL p xs n) (cutL q ys n) (takeM m (firstP p n))) ∧
  (¬ 0 < q.f0 → 0 < p.f0 → CompJ R (cutL p xs n) (cutL q ys n) (takeM m (firstP q n))) ∧
  (¬ 0 < q.f0 → ¬ 0 < p.f0 → (firstP p n).f1 = (firstP q n).f2 → CompJ R (cutL p xs n) (cutL q ys n) m) ∧
  (¬ 0 < q.f0 → ¬ 0 < p.f0 → (firstP p n).f1 ≠ (firstP q n).f2 → R = none) := by
 have hp := h.fx p List.mem_cons_self
 have hq := h.fy q List.mem_cons_self
 have hnp : n ≤ sizeP p := by omega
 have hnq : n ≤ sizeP q := by omega
 have hn0 : 0 < n := by have := hp.1.2; have := hq.1.2; omega
 have l1 := cutL_len (xs := xs) n hp.1 hnp
 have l2 := cutL_len (xs := ys) n hq.1 hnq
 have hl : leftN (p :: xs) (q :: ys) = n + n + leftN (cutL p xs n) (cutL q ys n) := by unfold leftN; omega
 have ht := h.tot
 have hv := comp_both hp.1 hq.1 h1 h2 xs ys m n hnp hnq
 rw [h.val] at hv
 have o1 : okP (firstP p n) := ⟨⟨pure_first n hp.1.1, by rw [firstP_size n hp.1 hnp]; exact hn0⟩, smallQ_first n hp.2 (by have := hp.le; omega)⟩
 have o2 : okP (firstP q n) := ⟨⟨pure_first n hq.1.1, by rw [firstP_size n hq.1 hnq]; exact hn0⟩, smallQ_first n hq.2 (by have := hp.le; omega)⟩
 have fx := ok_cutL (xs := xs) n hp hnp (fun x hx => h.fx x (List.mem_cons_of_mem _ hx))
 have fy := ok_cutL (xs := ys) n hq hnq (fun x hx => h.fy x (List.mem_cons_of_mem _ hx))
 refine ⟨hn0, hnp, hnq, by omega, o1, o2, fun b => ?_, fun b a => ?_, fun b a c => ?_, fun b a c => ?_⟩
 ·rw [if_pos b] at hv
  exact ⟨hv.symm, fx, fy, by omega, (h.bnd.take _ (o1.2.mono (C' := 400) (by omega)) (by omega)).mono (by omega), h.inv.take _ o1.1.1.1⟩
 ·rw [if_neg b, if_pos a] at hv
  exact ⟨hv.symm, fx, fy, by omega, (h.bnd.take _ (o2.2.mono (C' := 400) (by omega)) (by omega)).mono (by omega), h.inv.take _ o2.1.1.1⟩
 ·rw [if_neg b, if_neg a, if_pos c] at hv
  exact ⟨hv.symm, fx, fy, by omega, h.bnd.mono (by omega), h.inv⟩
 ·rw [if_neg b, if_neg a, if_neg c] at hv
  exact hv
end
theorem CompJ.done {R : Option Mk} {m : Mk} (h : CompJ R [] [] m) : R = some m := by rw [← h.val, comp_done]

theorem SepR.byAdd {l : List Part} {A : Option Addr} {v v' : Value} {t : TypeId} {w w' : World} {g c base : Nat} (h : SepR l A v) (hr : IsRd t w g A c l) (hs : AStep base v v' w w') : SepR l A v' := by
 intro hl a ha e
 rcases hs.own with e2 | ⟨b, e2, hle⟩
 ·exact h hl a ha (e.trans e2)
 ·obtain ⟨a', e3, hlt⟩ := C_addr hr.row hl
  rw [ha] at e3; injection e3 with e3; subst e3
  rw [e2] at e; injection e with e; omega
structure StS (t : TypeId) (base : Nat) (w : World) (g1 g2 : Nat) (A1 : Option Addr) (c1 : Nat) (xs : List Part) (A2 : Option Addr) (c2 : Nat) (ys : List Part) (v : Value) (L : List Part) : Prop where
 r1 : IsRd t w g1 A1 c1 xs
 r2 : IsRd t w g2 A2 c2 ys
 row : OwnP base w v L
 s1 : SepR xs A1 v
 s2 : SepR ys A2 v
 ne : g1 ≠ g2
 le : base ≤ g1 ∧ base ≤ g2
section
variable {t : TypeId} {base g1 g2 c1 c2 : Nat} {w w' : World} {A1 A2 : Option Addr} {xs ys l' L L' : List Part} {v v' : Value} (htp : t ≠ 86)
theorem StS.below (h : StS t base w g1 g2 A1 c1 xs A2 c2 ys v L) (hb : Below w.heap.size w w') : StS t base w' g1 g2 A1 c1 xs A2 c2 ys v L := ⟨h.r1.below hb, h.r2.below hb, h.row.below hb, h.s1, h.s2, h.ne, h.le⟩
theorem StS.size (h : StS t base w g1 g2 A1 c1 xs A2 c2 ys v L) : base ≤ w.heap.size := Nat.le_of_lt (Nat.lt_of_le_of_lt h.le.1 (blk_lt h.r1.blk))
theorem SepR.byRdS {l l' : List Part} {A A' : Option Addr} {v : Value} {w w' : World} {g base : Nat} {L : List Part} (h : SepR l A v) (hl0 : 0 < l.length) (hm : OwnP base w v L) (hs : RStep base g A A' w w') : SepR l' A' v := by
 intro _ a ha e
 rcases hs.own a ha with ⟨b, hb, e2⟩ | hle
 ·exact h hl0 b hb (by rw [← e2]; exact e)
 ·have := own_lt hm a.block e.symm; omega
include htp in
theorem StS.rd1 (h : StS t base w g1 g2 A1 c1 xs A2 c2 ys v L) (h0 : 0 < xs.length) (hP : RdPost t base g1 A1 l' w w') : Below base w w' ∧ Kept w w' (fun k => k = g1) ∧ ∃ A' c', StS t base w' g1 g2 A' c' l' A2 c2 ys v L := by
 obtain ⟨A', c', hr, hs⟩ := hP
 exact ⟨hs.below, hs.kept, A', c', hr, h.r2.by_rd h.r1 (Ne.symm h.ne) hs.kept, own_move h.row (fun k hk => hs.kept.2 k (own_lt h.row k hk) (fun e => own_ne h.row h.r1.blk (Ne.symm htp) (by rw [hk, e]))), h.s1.byRdS h0 h.row hs, h.s2, h.ne, h.le⟩
include htp in
theorem StS.rd2 (h : StS t base w g1 g2 A1 c1 xs A2 c2 ys v L) (h0 : 0 < ys.length) (hP : RdPost t base g2 A2 l' w w') : Below base w w' ∧ Kept w w' (fun k => k = g2) ∧ ∃ A' c', StS t base w' g1 g2 A1 c1 xs A' c' l' v L := by
 obtain ⟨A', c', hr, hs⟩ := hP
 exact ⟨hs.below, hs.kept, A', c', h.r1.by_rd h.r2 h.ne hs.kept, hr, own_move h.row (fun k hk => hs.kept.2 k (own_lt h.row k hk) (fun e => own_ne h.row h.r2.blk (Ne.symm htp) (by rw [hk, e]))), h.s1, h.s2.byRdS h0 h.row hs, h.ne, h.le⟩
include htp in
theorem StS.add (h : StS t base w g1 g2 A1 c1 xs A2 c2 ys v L) (hP : AddPost base v L' w w' v') : Below base w w' ∧ StS t base w' g1 g2 A1 c1 xs A2 c2 ys v' L' := by
 obtain ⟨ho, hs⟩ := hP
 refine ⟨hs.below, h.r1.kept hs.kept (fun e => own_ne h.row h.r1.blk (Ne.symm htp) e) (fun hl a ha e => h.s1 hl a ha e), h.r2.kept hs.kept (fun e => own_ne h.row h.r2.blk (Ne.symm htp) e) (fun hl a ha e => h.s2 hl a ha e), ho, h.s1.byAdd h.r1 hs, h.s2.byAdd h.r2 hs, h.ne, h.le⟩
end
instance decOkP (p : Part) : Decidable (okP p) := by unfold okP fullP pureP smallQ; infer_instance
theorem first_posS {p : Part} {n : Nat} (hn : 0 < n) (hp : pureP p) : 0 < (firstP p n).f0 ↔ 0 < p.f0 := by
 unfold firstP
 by_cases a : 0 < p.f0
 ·rw [if_pos a]; simp only; omega
 ·rw [if_neg a]; split <;> rfl
theorem rs_done_cons (g : Nat) (A : Option Addr) (c : Nat) (p : Part) (xs : List Part) (w : World) (h : IsRd 157 w g A c (p :: xs)) :
  Calls Try.prog 128 #[.pointer (some ⟨g, 0, none⟩)] w fun e w' => e = .returned (.bool false) ∧ Below w.heap.size w w' :=
 (rs_done g A c (p :: xs) w h).mono fun e w' ⟨he, hb⟩ => ⟨by rw [he, show (((p :: xs).length : Int) == 0) = false from by rw [beq_eq_false_iff_ne]; simp only [List.length_cons]; omega], hb⟩
theorem rs_done_nil (g : Nat) (A : Option Addr) (c : Nat) (w : World) (h : IsRd 157 w g A c []) :
  Calls Try.prog 128 #[.pointer (some ⟨g, 0, none⟩)] w fun e w' => e = .returned (.bool true) ∧ Below w.heap.size w w' :=
 (rs_done g A c [] w h).mono fun e w' ⟨he, hb⟩ => ⟨by rw [he]; rfl, hb⟩
instance decPureP (p : Part) : Decidable (pureP p) := by unfold pureP; infer_instance
def spec_l3Normal.f (l0 : List Part) : Option (List Part) := if makeB l0 = true ∧ ∀ p ∈ l0, pureP p then some (normL l0) else none
theorem take_len3 (m : Mk) (p : Part) : (madeL (takeM m p)).length ≤ (madeL m).length + 3 := by
 have a1 := putPart_length ((keepM p.f0 m).put ++ p.f1)
 have a2 := dropPart_length ((keepM p.f0 m).drop ++ p.f2)
 rw [madeL_length]
 unfold takeM
 simp only
 have e : (keepM p.f0 m).out.length ≤ (madeL m).length + 1 := by
  unfold keepM
  by_cases z : p.f0 = 0
  ·rw [if_pos z]; have := made_out m; omega
  ·rw [if_neg z]; exact keepL_length _ _
 omega
theorem fold_len3 (l : List Part) : ∀ m : Mk, (madeL (l.foldl takeM m)).length ≤ (madeL m).length + 3 * l.length := by
 induction l with
 | nil => intro m; exact Nat.le_add_right _ _
 | cons p l ih => intro m; have h1 := ih (takeM m p); have h2 := take_len3 m p; rw [List.foldl_cons, List.length_cons]; omega
theorem made_len (l : List Part) (h : l.length ≤ 2000) : (madeL (l.foldl takeM mk0)).length ≤ 100000 := by
 have := fold_len3 l mk0
 rw [show madeL mk0 = [] from rfl, List.length_nil] at this
 omega
theorem add_next {l : List Part} {p : Part} (hl : ∀ q ∈ l, pureP q) (hp : pureP p) : addL (madeL (l.foldl takeM mk0)) p = madeL ((l ++ [p]).foldl takeM mk0) := by
 rw [addL_made _ p (InvM.zero.fold (fun q hq => (hl q hq).1)) hp, List.foldl_append]; rfl


set_option maxHeartbeats 8000000 in
set_option maxRecDepth 100000 in
theorem spec_l3Normal.calls (A0 : Option Addr) (c0 : Nat) (l0 : List Part) (r : List Part) (w : World) (hr0 : Kd.C k86 w A0 l0.length l0) (hc0 : l0.length ≤ c0) (h : spec_l3Normal.f l0 = some r) :
  Calls Try.prog 62 #[.slice A0 l0.length c0] w fun e w' => ∃ v0_ : Value, e = .returned (v0_) ∧ Kd.R k86 86 w' w.heap.size (fun _ => True) v0_ r ∧ Below w.heap.size w w' := by
 unfold spec_l3Normal.f at h
 by_cases hm : makeB l0 = true ∧ ∀ p ∈ l0, pureP p
 case neg => rw [if_neg hm] at h; cases h
 rw [if_pos hm] at h
 obtain rfl := Option.some.inj h
 obtain ⟨hm, hpu⟩ := hm
 obtain ⟨hl, hp⟩ := makeB_of hm
 have HC := mz hr0
 have HP := mz hp
 have HPU := mz hpu
 clear hr0 hp hpu hm h hc0
 go_enter Try.func62, Try.ntmps62
 go_wp2
 go_loopg [3, 5, 8] l0.length (fun gg s3 _ s8 wr => ∃ (kk : Nat), kk ≤ l0.length ∧ l0.length - kk ≤ gg ∧ s8 = .int .i64 kk ∧ Aside0 (OwnP w.heap.size wr s3 (madeL (((l0.take kk)).foldl takeM mk0))) ∧ Aside0 (Below w.heap.size w wr))
 case atStart => exact ⟨0, Nat.zero_le _, by omega, rfl, ⟨by simp only [List.take_zero, List.map_nil, List.foldl_nil]; exact own_nil _ _ _ _⟩, ⟨Below.refl _ _⟩⟩
 case round =>
  obtain ⟨kk, hkk, hg, rfl, HM, HB⟩ := hrel
  have HBD : Aside0 (BndM (((l0.take kk)).foldl takeM mk0) 800000) := ⟨(BndM.fold (C := 400) (by omega) ((l0.take kk)) BndM.zero (by exact fun q hq => HP.out q (List.mem_of_mem_take hq))).mono (by skip; rw [List.length_take]; omega)⟩
  by_cases hlt : kk < l0.length
  ·have hltz : (kk : Int) < (l0.length : Int) := by omega
   have hsp := HP.out l0[kk] (List.getElem_mem hlt)
   have hpp := HPU.out l0[kk] (List.getElem_mem hlt)
   obtain ⟨ad, eA, x0, x1, x2⟩ := at_T86 (Kd.C_below HC.out HB.out) (kk : Int) (by omega) hltz
   rw [rd_part l0 kk hlt, Int.toNat_natCast] at x0 x1 x2
   subst eA
   have hadd : addL (madeL (((l0.take kk)).foldl takeM mk0)) l0[kk] = madeL (((l0.take (kk + 1))).foldl takeM mk0) := by rw [add_next (fun q hq => HPU.out q (List.mem_of_mem_take hq)) hpp, List.take_succ_eq_append_getElem hlt]; skip
   have HF := mz hadd
   have HSP := mz hsp
   have HPP := mz hpp
   clear hadd hsp hpp
   generalize l0[kk] = p at x0 x1 x2 HF HSP HPP
   skip
   go_upto_region 5 with ((with_reducible refine gate_dst (N := 5) rfl ?_); refine bx 5 #[.int .i64 0, .string ⟨#[]⟩, .string ⟨#[]⟩] 86 ?_; intro gp hg2 w2 hbox hb; have y0 := cell_step x0 hb; have y1 := cell_step x1 hb; have y2 := cell_step x2 hb; have BB := mz hb; have BX := mz hbox; obtain ⟨e0, e1, e2⟩ := cells3 hbox; obtain ⟨f0, f1, f2⟩ := froz3 hbox; have HG2 := mz hg2; clear hg2 hb hbox x0 x1 x2)
   obtain ⟨hbk, hbb⟩ := fill3 (v0 := .int .i64 p.f0) (v1 := .string p.f1) (v2 := .string p.f2) BB.out (Nat.le_of_eq HG2.out.symm) BX.out
   clear y0 y1 y2 e0 e1 e2 f0 f1 f2 BB BX
   generalize (((w2.setCell ⟨gp, 0, none⟩ (.int .i64 p.f0)).setCell ⟨gp, 1, none⟩ (.string p.f1)).setCell ⟨gp, 2, none⟩ (.string p.f2)) = w3 at hbk hbb ⊢
   have HB3 := mz hbb
   obtain ⟨e0, e1, e2⟩ := cells3 hbk
   clear hbk hbb
   have HBS : Aside0 (w.heap.size ≤ w3.heap.size) := ⟨Nat.le_trans HB.out.size HB3.out.size⟩
   go_wp2_with fail
   refine (add_walk w.heap.size _ _ p w3 (HM.out.below HB3.out) HBS.out ?hok).mono ?_
   case hok => exact ⟨HPP.out, Nat.le_trans (made_len _ (by rw [List.length_take]; omega)) (by omega), (HSP.out.mono (by omega)), fun q hq => (HBD.out.mem q hq).mono (by omega)⟩
   rintro e w4 ⟨v4, rfl, hO4, hS4⟩
   rw [HF.out] at hO4
   have HM4 := mz hO4
   have HB4 := mz ((HB.out.trans (HB3.out.mono HB.out.size)).trans hS4.below)
   clear hO4 hS4 e0 e1 e2
   go_wp2_with fail
   go_roundg (l0.length - (kk + 1))
   case measure => omega
   case rel => exact ⟨kk + 1, by omega, by omega, by (first | go_num | (congr 1; unfold wrap64; omega)), ⟨HM4.out⟩, ⟨HB4.out⟩⟩
  ·have hltz : ¬ (kk : Int) < (l0.length : Int) := by omega
   obtain rfl : kk = l0.length := by omega
   go_wp2_with fail
   go_ret
   have hr := R_of_flat HM.out
   rw [List.take_length] at hr
   exact ⟨_, rfl, hr, HB.out⟩
section
attribute [local go_sem] max2_int min2_int max_two min_two max_three min_three max_four min_four

end
theorem full_put {s : ByteArray} (h : s.size ≠ 0) : fullP ⟨0, s, noB⟩ := ⟨⟨Int.le_refl _, fun x => absurd rfl x, fun _ => rfl⟩, by simp only [sizeP]; omega⟩
theorem full_drop {s : ByteArray} (h : s.size ≠ 0) : fullP ⟨0, noB, s⟩ := ⟨⟨Int.le_refl _, fun x => absurd rfl x, fun x => absurd rfl x⟩, by simp only [sizeP]; omega⟩
theorem full_keepL {o : List Part} (n : Int) (hn : 0 < n) (h : ∀ q ∈ o, fullP q) : ∀ q ∈ keepL o n, fullP q := by
 have hN : fullP ⟨n, noB, noB⟩ := ⟨⟨by simp only; omega, fun _ => ⟨rfl, rfl⟩, fun x => absurd rfl x⟩, by simp only [sizeP]; omega⟩
 intro q hq
 rcases List.eq_nil_or_concat o with rfl | ⟨o, x, rfl⟩
 ·rw [keepL_nil] at hq; simp at hq; subst hq; exact hN
 ·rw [List.concat_eq_append] at h hq
  rw [keepL_snoc] at hq
  by_cases z : x.f0 > 0
  ·rw [if_pos z] at hq
   rcases List.mem_append.1 hq with hq | hq
   ·exact h q (List.mem_append_left _ hq)
   ·have hx := h x (by simp)
    obtain ⟨e1, e2⟩ := hx.1.2.1 (by omega)
    simp at hq; subst hq
    exact ⟨⟨by simp only; omega, fun _ => ⟨e1, e2⟩, fun y => absurd e1 y⟩, by simp only [sizeP]; omega⟩
  ·rw [if_neg z] at hq
   rcases List.mem_append.1 hq with hq | hq
   ·exact h q hq
   ·simp at hq; subst hq; exact hN
theorem full_tail (s t : ByteArray) : ∀ q ∈ putPart s ++ dropPart t, fullP q := by
 intro q hq
 unfold putPart dropPart at hq
 rcases List.mem_append.1 hq with hq | hq
 ·split at hq
  ·simp at hq
  ·simp at hq; subst hq; exact full_put (by assumption)
 ·split at hq
  ·simp at hq
  ·simp at hq; subst hq; exact full_drop (by assumption)
theorem full_take {m : Mk} {p : Part} (hm : ∀ q ∈ madeL m, fullP q) (hp : 0 ≤ p.f0) : ∀ q ∈ madeL (takeM m p), fullP q := by
 intro q hq
 unfold madeL at hq
 rcases List.mem_append.1 hq with hq | hq
 ·unfold takeM keepM at hq
  by_cases z : p.f0 = 0
  ·rw [if_pos z] at hq; exact hm q (List.mem_append_left _ hq)
  ·rw [if_neg z] at hq; exact full_keepL p.f0 (by omega) hm q hq
 ·exact full_tail _ _ q hq
theorem full_fold (l : List Part) (h : ∀ p ∈ l, 0 ≤ p.f0) : ∀ m : Mk, (∀ q ∈ madeL m, fullP q) → ∀ q ∈ madeL (l.foldl takeM m), fullP q := by
 induction l with
 | nil => intro m hm; exact hm
 | cons p l ih => intro m hm; exact ih (fun q hq => h q (List.mem_cons_of_mem _ hq)) _ (full_take hm (h p List.mem_cons_self))
theorem Sw.sums {a b : List U} (h : Sw a b) : takesU a = takesU b ∧ makesU a = makesU b ∧ a.length = b.length := by
 induction h with
 | refl l => exact ⟨rfl, rfl, rfl⟩
 | swap a c e b => simp [takesU, makesU]
 | trans _ _ h1 h2 => exact ⟨h1.1.trans h2.1, h1.2.1.trans h2.2.1, h1.2.2.trans h2.2.2⟩
theorem takes_mem {l : List Part} {q : Part} (h : q ∈ l) : q.f0.toNat + q.f2.size ≤ takesU (unitsL l) := by
 induction l with
 | nil => simp at h
 | cons p l ih =>
  rw [unitsL_cons, takesU_app, takesU_part]
  rcases List.mem_cons.1 h with rfl | h
  ·omega
  ·have := ih h; omega
theorem makes_mem {l : List Part} {q : Part} (h : q ∈ l) : q.f0.toNat + q.f1.size ≤ makesU (unitsL l) := by
 induction l with
 | nil => simp at h
 | cons p l ih =>
  rw [unitsL_cons, makesU_app, makesU_part]
  rcases List.mem_cons.1 h with rfl | h
  ·omega
  ·have := ih h; omega
theorem norm_ok {l : List Part} (h : opB l = true) : (∀ q ∈ normL l, okP q) ∧ (unitsL (normL l)).length ≤ 600 ∧ takesU (unitsL (normL l)) = takesN l ∧ makesU (unitsL (normL l)) = makesN l := by
 obtain ⟨h1, h2, h3, h4⟩ := opB_of h
 have hp : ∀ p ∈ l, 0 ≤ p.f0 := fun p hp => (full_of_partB (h2 p hp)).1.1.1
 obtain ⟨s1, s2, s3⟩ := (units_norm l hp).sums
 have t1 : takesU (unitsL l) = takesN l := takesU_units l
 have t2 : makesU (unitsL l) = makesN l := makesU_units l
 have hu := units_small l (fun p hp => full_of_partB (h2 p hp))
 have hf := full_fold l hp mk0 (fun q hq => by simp [mk0, madeL, putPart, dropPart, noB_size] at hq)
 refine ⟨fun q hq => ⟨hf q hq, ?_⟩, by omega, by omega, by omega⟩
 have a1 := takes_mem hq
 have a2 := makes_mem hq
 have a3 := (hf q hq).1.1
 exact ⟨a3, (by omega), (by omega), (by omega)⟩
theorem makeB_good {l : List Part} (h : opB l = true) : makeB l = true ∧ ∀ p ∈ l, pureP p := by
 obtain ⟨h1, h2, _, _⟩ := opB_of h
 refine ⟨?_, fun p hp => (full_of_partB (h2 p hp)).1.1⟩
 unfold makeB
 simp only [Bool.and_eq_true, decide_eq_true_eq, List.all_eq_true]
 refine ⟨by omega, fun p hp => ?_⟩
 obtain ⟨a, b, c, d⟩ := (full_of_partB (h2 p hp)).2
 exact ⟨⟨⟨a, by omega⟩, by omega⟩, by omega⟩
theorem specNormal_val {l : List Part} (h : opB l = true) : spec_l3Normal.f l = some (normL l) := by
 unfold spec_l3Normal.f; rw [if_pos (makeB_good h)]
theorem step_len (m : Mk) (u : U) (hI : InvM m) : (unitsM (stepU m u)).length = (unitsM m).length + 1 := by
 have := (units_step m u hI).sums.2.2
 simpa using this.symm
theorem size_mem {l : List Part} {q : Part} (h : q ∈ l) : sizeP q ≤ (unitsL l).length := by
 induction l with
 | nil => simp at h
 | cons p l ih =>
  rw [unitsL_len_cons]
  rcases List.mem_cons.1 h with rfl | h
  ·omega
  ·have := ih h; omega
theorem applyV_size (l : List Part) (t : ByteArray) : (applyV l t).1.size ≤ 300 := by
 unfold applyV
 by_cases h : opB l = true ∧ textB t = true
 ·rw [if_pos h]
  unfold ansB
  by_cases q : (appB l t ⟨#[]⟩).2 = true
  ·rw [if_pos q]
   have := textB_size (appB_text h.1 h.2 q)
   exact this
  ·rw [if_neg q]; exact Nat.zero_le _
 ·rw [if_neg h]; exact Nat.zero_le _
section
attribute [local go_sem] max2_int min2_int max_two min_two max_three min_three max_four min_four
def impl_Client_copied.f (a0_0 : Int) (a0_1 : ByteArray) (a0_2 : Int) (a0_3 : Int) (a0_4 : Bool) (l0_5 : List (S86)) (l0_6 : List (S86)) (a0_7 : Bool) : Option (Int × ByteArray × Int × Int × Bool × (List (S86)) × (List (S86)) × Bool) := (impl_Part_75.f l0_5).bind fun t103 => ((impl_Part_75.f l0_6).bind fun t106 => (some (a0_0, a0_1, a0_2, a0_3, a0_4, t103, t106, a0_7)))
def impl_Client_copied.T1 : Bool × List (List Nat × List Nat) := (true, [([], []), ([0], [0]), ([1], [1]), ([], []), ([3], [3]), ([4, 2], [4]), ([0, 1, 2, 3, 4], []), ([6, 2, 5, 0, 1, 2, 3, 4], [2, 6]), ([0, 1, 2, 3, 4, 5, 6, 7], []), ([8, 5, 7, 0, 1, 2, 3, 4, 5, 6, 7], [5, 8])])
def impl_Client_copied.B1 : List Nat := [0, 1, 3, 0, 8, 31, 31, 127, 255, 511]
theorem impl_Client_copied.tab1 : rtab .any (opsOf Try.f66 1) = impl_Client_copied.T1 := by kernel_rfl
theorem impl_Client_copied.bits1 : waitsOk impl_Client_copied.T1.2 impl_Client_copied.B1 = true := by kernel_rfl
set_option maxHeartbeats 8000000 in
set_option maxRecDepth 100000 in
theorem impl_Client_copied.calls (a0_0 : Int) (a0_1 : ByteArray) (a0_2 : Int) (a0_3 : Int) (a0_4 : Bool) (A0_5 : Option Addr) (c0_5 : Nat) (l0_5 : List (S86)) (A0_6 : Option Addr) (c0_6 : Nat) (l0_6 : List (S86)) (a0_7 : Bool) (r1 : Int) (r2 : ByteArray) (r3 : Int) (r4 : Int) (r5 : Bool) (r6 : List (S86)) (r7 : List (S86)) (r8 : Bool) (w : World) (hr0_5 : Kd.C k86 w A0_5 l0_5.length l0_5) (hc0_5 : l0_5.length ≤ c0_5) (hr0_6 : Kd.C k86 w A0_6 l0_6.length l0_6) (hc0_6 : l0_6.length ≤ c0_6) (h : impl_Client_copied.f a0_0 a0_1 a0_2 a0_3 a0_4 l0_5 l0_6 a0_7 = some (r1, r2, r3, r4, r5, r6, r7, r8)) :
  Calls Try.prog 66 #[.agg #[.int .i64 a0_0, .string a0_1, .int .i64 a0_2, .int .i64 a0_3, .bool a0_4, .slice A0_5 l0_5.length c0_5, .slice A0_6 l0_6.length c0_6, .bool a0_7]] w fun e w' => ∃ v5_ v6_ : Value, e = .returned (.agg #[.int .i64 r1, .string r2, .int .i64 r3, .int .i64 r4, .bool r5, v5_, v6_, .bool r8]) ∧ Kd.R k86 86 w' w.heap.size (fun k_ => some k_ ≠ (v6_ : Value).ownBlock) v5_ r6 ∧ Kd.R k86 86 w' w.heap.size (fun k_ => some k_ ≠ (v5_ : Value).ownBlock) v6_ r7 ∧ Below w.heap.size w w' := by
 have hu45 := Try.underlying45
 have HR0_5 := mz hr0_5
 have HC0_5 := mz hc0_5
 clear hr0_5 hc0_5
 have HR0_6 := mz hr0_6
 have HC0_6 := mz hc0_6
 clear hr0_6 hc0_6
 have HB := mz (Below.refl w.heap.size w)
 have H : ((impl_Part_75.f l0_5).bind fun t103 => ((impl_Part_75.f l0_6).bind fun t106 => (some (a0_0, a0_1, a0_2, a0_3, a0_4, t103, t106, a0_7)))) = some (r1, r2, r3, r4, r5, r6, r7, r8) := h
 clear h
 replace H := be0_ H
 obtain ⟨t103, A20, H⟩ := H
 replace H : ((impl_Part_75.f l0_6).bind fun t106 => (some (a0_0, a0_1, a0_2, a0_3, a0_4, t103, t106, a0_7))) = some (r1, r2, r3, r4, r5, r6, r7, r8) := H
 have A2 := mz A20
 clear A20
 replace H := be0_ H
 obtain ⟨t106, A30, H⟩ := H
 replace H : (some (a0_0, a0_1, a0_2, a0_3, a0_4, t103, t106, a0_7)) = some (r1, r2, r3, r4, r5, r6, r7, r8) := H
 have A3 := mz A30
 clear A30
 simp only [Option.some.injEq, Prod.mk.injEq] at H
 obtain ⟨rfl, rfl, rfl, rfl, rfl, rfl, rfl, rfl⟩ := H
 go_enter Try.func66, Try.ntmps66
 try go_wp2_with (first | ((with_reducible refine gate_dst (N := 1) rfl ?_); refine bz_ 1 #[.int .i64 a0_0, .string a0_1, .int .i64 a0_2, .int .i64 a0_3, .bool a0_4, .slice A0_5 l0_5.length c0_5, .slice A0_6 l0_6.length c0_6, .bool a0_7] 45 ?_; intro gb101 hg w4 hbox hb; have n0_ := mz (bs0_ hb); have n1_ := mz (hbox); have n2_ := mz ((by rw [hg]; exact bz1_ : w.heap.size ≤ gb101)); have n3_ := mz ((by rw [hg]; exact bz1_ : w.heap.size ≤ gb101)); clear HB; have HB := n0_; have BK101 := n1_; have GW101 := n2_; have GE101 := n3_; clear n0_ n1_ n2_ n3_; clear hb hbox hg) | ((with_reducible refine gate_dst (N := 2) rfl ?_); refine bz_ 2 #[.int .i64 0, .string (⟨#[]⟩ : ByteArray), .int .i64 0, .int .i64 0, .bool false, .slice none 0 0, .slice none 0 0, .bool false] 45 ?_; intro gb102 hg w5 hbox hb; have n0_ := mz (blk_below (g := gb101) (o := .cells #[.int .i64 a0_0, .string a0_1, .int .i64 a0_2, .int .i64 a0_3, .bool a0_4, .slice A0_5 l0_5.length c0_5, .slice A0_6 l0_6.length c0_6, .bool a0_7] 45 (0, 0)) a14_ hb); have n1_ := mz (bs2_ hb); have n2_ := mz (hbox); have n3_ := mz ((by rw [hg]; exact bz5_ : w.heap.size ≤ gb102)); have n4_ := mz ((by rw [hg]; exact bz5_ : w.heap.size ≤ gb102)); have n5_ := mz ((by rw [hg]; exact Nat.ne_of_lt (blk_lt (g := gb101) (o := .cells #[.int .i64 a0_0, .string a0_1, .int .i64 a0_2, .int .i64 a0_3, .bool a0_4, .slice A0_5 l0_5.length c0_5, .slice A0_6 l0_6.length c0_6, .bool a0_7] 45 (0, 0)) a14_) : gb101 ≠ gb102)); have n6_ := mz ((by rw [hg]; exact Nat.ne_of_gt (blk_lt (g := gb101) (o := .cells #[.int .i64 a0_0, .string a0_1, .int .i64 a0_2, .int .i64 a0_3, .bool a0_4, .slice A0_5 l0_5.length c0_5, .slice A0_6 l0_6.length c0_6, .bool a0_7] 45 (0, 0)) a14_) : gb102 ≠ gb101)); clear BK101; clear HB; have BK101 := n0_; have HB := n1_; have BK102 := n2_; have GW102 := n3_; have GE102 := n4_; have NB101_102 := n5_; have NB102_101 := n6_; clear n0_ n1_ n2_ n3_ n4_ n5_ n6_; clear hb hbox hg))
 have n0_ := mz (blk_drew BK101.out)
 have n1_ := mz (blk_drew BK102.out)
 have n2_ := mz (below_drew1 HB.out)
 clear BK101
 clear BK102
 clear HB
 have BK101 := n0_
 have BK102 := n1_
 have HB := n2_
 clear n0_ n1_ n2_
 refine start_ (n := 10) (S := fun w' => w'.cell? ⟨gb101, 0, none⟩ = some (.int .i64 a0_0) ∧ w'.cell? ⟨gb101, 1, none⟩ = some (.string a0_1) ∧ w'.cell? ⟨gb101, 2, none⟩ = some (.int .i64 a0_2) ∧ w'.cell? ⟨gb101, 3, none⟩ = some (.int .i64 a0_3) ∧ w'.cell? ⟨gb101, 4, none⟩ = some (.bool a0_4) ∧ w'.cell? ⟨gb101, 5, none⟩ = some (.slice A0_5 l0_5.length c0_5) ∧ w'.cell? ⟨gb101, 6, none⟩ = some (.slice A0_6 l0_6.length c0_6) ∧ w'.cell? ⟨gb101, 7, none⟩ = some (.bool a0_7)) (ds := [7, 9]) #[false, false, false, false, false, false, false, false, false, false] (by kernel_rfl) rfl rfl ⟨(blk_cell BK101.out 0).trans rfl, (blk_cell BK101.out 1).trans rfl, (blk_cell BK101.out 2).trans rfl, (blk_cell BK101.out 3).trans rfl, (blk_cell BK101.out 4).trans rfl, (blk_cell BK101.out 5).trans rfl, (blk_cell BK101.out 6).trans rfl, (blk_cell BK101.out 7).trans rfl⟩ (fun hHeld => ?_); refine with_tabW impl_Client_copied.tab1 impl_Client_copied.bits1 (fun HT_ HW_ => ?_)
 generalize w5.drew = w6 at BK101 BK102 HB hHeld ⊢
 refine pure_ (i := 0) (N := some 3) (v := ?_) (a' := ?_) #[true, false, false, false, false, false, false, false, false, false] rfl rfl (any_of HT_.out (by kernel_rfl)) (fun _ _ _ h => h) (Or.inl ⟨by rfl, ?_⟩) ?_ ?_
 rotate_left
 ·intro w'
  go_simp
  with_reducible rfl
 rotate_left
 ·simp only [Act.put, List.setIfInBounds_toArray, List.set_cons_zero, List.set_cons_succ, i64_w, i32_w]
  rfl
 refine pure_ (i := 3) (N := some 6) (v := ?_) (a' := ?_) #[true, false, false, true, false, false, false, false, false, false] rfl rfl (any_of HT_.out (by kernel_rfl)) (fun _ _ _ h => h) (Or.inl ⟨by rfl, ?_⟩) ?_ ?_
 rotate_left
 ·intro w'
  go_simp
  with_reducible rfl
 rotate_left
 ·simp only [Act.put, List.setIfInBounds_toArray, List.set_cons_zero, List.set_cons_succ, i64_w, i32_w]
  rfl
 refine take_ (i := 1) (N := some 4) (v := ?_) (a' := ?_) #[true, true, false, true, false, false, false, false, false, false] rfl rfl (take_ofW HT_.out HW_.out (by kernel_rfl)) (fun _ _ _ h => h) (Or.inl ⟨by rfl, ?_⟩) hHeld ?_ ?_
 rotate_left
 ·rintro w' ⟨s0, s1, s2, s3, s4, s5, s6, s7⟩
  go_simp
  with_reducible rfl
 rotate_left
 ·simp only [Act.put, List.setIfInBounds_toArray, List.set_cons_zero, List.set_cons_succ, i64_w, i32_w]
  rfl
 refine take_ (i := 4) (N := some 7) (v := ?_) (a' := ?_) #[true, true, false, true, true, false, false, false, false, false] rfl rfl (take_ofW HT_.out HW_.out (by kernel_rfl)) (fun _ _ _ h => h) (Or.inl ⟨by rfl, ?_⟩) hHeld ?_ ?_
 rotate_left
 ·rintro w' ⟨s0, s1, s2, s3, s4, s5, s6, s7⟩
  go_simp
  with_reducible rfl
 rotate_left
 ·simp only [Act.put, List.setIfInBounds_toArray, List.set_cons_zero, List.set_cons_succ, i64_w, i32_w]
  rfl
 refine one_ (i := 2) (N := some 5) #[true, true, true, true, true, false, false, false, false, false] rfl rfl (one_of HT_.out (by kernel_rfl)) (by decide) (fun K hK => ?_)
 refine goes_ Try.func75 (by kernel_rfl) rfl #[.slice A0_5 l0_5.length c0_5] (by rfl) rfl rfl a11_ ?_
 with_reducible refine (impl_Part_75.calls _ _ l0_5 t103 _ ?side1 ?side2 A2.out).mono ?_
 (case side1 => repeat (first | exact (Kd.C_below HR0_5.out HB.out) | (with_reducible refine Kd.C_alloc ?_ _) | (with_reducible refine Kd.C_drewN ?_ _) | (with_reducible refine Kd.C_drew ?_)))
 (case side2 => exact HC0_5.out)
 rintro e w7 ⟨v104, rfl, ho0, hb⟩
 refine ⟨_, rfl, ?_⟩
 have n0_ := mz (Kd.R_lower ho0 bz6_)
 have n1_ := mz (blk_below (g := gb101) (o := .cells #[.int .i64 a0_0, .string a0_1, .int .i64 a0_2, .int .i64 a0_3, .bool a0_4, .slice A0_5 l0_5.length c0_5, .slice A0_6 l0_6.length c0_6, .bool a0_7] 45 (0, 0)) a14_ hb)
 have n2_ := mz (blk_below (g := gb102) (o := .cells #[.int .i64 0, .string (⟨#[]⟩ : ByteArray), .int .i64 0, .int .i64 0, .bool false, .slice none 0 0, .slice none 0 0, .bool false] 45 (0, 0)) a15_ hb)
 have n3_ := mz (bs4_ hb)
 clear BK101
 clear BK102
 clear HB
 have HO105 := n0_
 have BK101 := n1_
 have BK102 := n2_
 have HB := n3_
 clear n0_ n1_ n2_ n3_
 (try clear hb)
 (try clear hb2)
 (try clear hk)
 (try clear hi)
 (try clear ho0)
 refine hK.out _ _ ⟨(blk_cell BK101.out 0).trans rfl, (blk_cell BK101.out 1).trans rfl, (blk_cell BK101.out 2).trans rfl, (blk_cell BK101.out 3).trans rfl, (blk_cell BK101.out 4).trans rfl, (blk_cell BK101.out 5).trans rfl, (blk_cell BK101.out 6).trans rfl, (blk_cell BK101.out 7).trans rfl⟩ (fun hHeld => ?_)
 clear hK K
 refine norm_ (a' := ?_) ?_ ?_
 rotate_left
 ·show Act.put _ (some 5) _ = _
  simp only [Act.put, List.setIfInBounds_toArray, List.set_cons_zero, List.set_cons_succ, i64_w, i32_w]
  rfl
 refine pure_ (i := 6) (N := some 9) (v := ?_) (a' := ?_) #[true, true, true, true, true, false, true, false, false, false] rfl rfl (any_of HT_.out (by kernel_rfl)) (fun _ _ _ h => h) (Or.inl ⟨by rfl, ?_⟩) ?_ ?_
 rotate_left
 ·intro w'
  go_simp
  with_reducible rfl
 rotate_left
 ·simp only [Act.put, List.setIfInBounds_toArray, List.set_cons_zero, List.set_cons_succ, i64_w, i32_w]
  rfl
 refine one_ (i := 5) (N := some 8) #[true, true, true, true, true, true, true, false, false, false] rfl rfl (one_of HT_.out (by kernel_rfl)) (by decide) (fun K hK => ?_)
 refine goes_ Try.func75 (by kernel_rfl) rfl #[.slice A0_6 l0_6.length c0_6] (by rfl) rfl rfl a11_ ?_
 with_reducible refine (impl_Part_75.calls _ _ l0_6 t106 _ ?side1 ?side2 A3.out).mono ?_
 (case side1 => repeat (first | exact (Kd.C_below HR0_6.out HB.out) | (with_reducible refine Kd.C_alloc ?_ _) | (with_reducible refine Kd.C_drewN ?_ _) | (with_reducible refine Kd.C_drew ?_)))
 (case side2 => exact HC0_6.out)
 rintro e w8 ⟨v107, rfl, ho0, hb⟩
 refine ⟨_, rfl, ?_⟩
 have n0_ := mz (Kd.R_elder' a16_ (Kd.R_base ho0) hb)
 have n1_ := mz (Kd.R_lower (Kd.R_new' ho0 (Kd.R_lt a16_)) bz6_)
 have n2_ := mz (blk_below (g := gb101) (o := .cells #[.int .i64 a0_0, .string a0_1, .int .i64 a0_2, .int .i64 a0_3, .bool a0_4, .slice A0_5 l0_5.length c0_5, .slice A0_6 l0_6.length c0_6, .bool a0_7] 45 (0, 0)) a14_ hb)
 have n3_ := mz (blk_below (g := gb102) (o := .cells #[.int .i64 0, .string (⟨#[]⟩ : ByteArray), .int .i64 0, .int .i64 0, .bool false, .slice none 0 0, .slice none 0 0, .bool false] 45 (0, 0)) a15_ hb)
 have n4_ := mz (bs4_ hb)
 clear HO105
 clear BK101
 clear BK102
 clear HB
 have HO105 := n0_
 have HO108 := n1_
 have BK101 := n2_
 have BK102 := n3_
 have HB := n4_
 clear n0_ n1_ n2_ n3_ n4_
 (try clear hb)
 (try clear hb2)
 (try clear hk)
 (try clear hi)
 (try clear ho0)
 obtain ⟨Ao9, co9, eo9⟩ := Kd.R_slice HO105.out
 (first | subst eo9 | (injection eo9 with f1_ f2_ f3_; have f4_ := f1_.symm; have f5_ := f3_.symm; clear f1_ f2_ f3_; subst f4_; subst f5_))
 obtain ⟨Ao11, co11, eo11⟩ := Kd.R_slice HO108.out
 (first | subst eo11 | (injection eo11 with f1_ f2_ f3_; have f4_ := f1_.symm; have f5_ := f3_.symm; clear f1_ f2_ f3_; subst f4_; subst f5_))
 refine hK.out _ _ ⟨(blk_cell BK101.out 0).trans rfl, (blk_cell BK101.out 1).trans rfl, (blk_cell BK101.out 2).trans rfl, (blk_cell BK101.out 3).trans rfl, (blk_cell BK101.out 4).trans rfl, (blk_cell BK101.out 5).trans rfl, (blk_cell BK101.out 6).trans rfl, (blk_cell BK101.out 7).trans rfl⟩ (fun hHeld => ?_)
 clear hK K
 refine norm_ (a' := ?_) ?_ ?_
 rotate_left
 ·show Act.put _ (some 8) _ = _
  simp only [Act.put, List.setIfInBounds_toArray, List.set_cons_zero, List.set_cons_succ, i64_w, i32_w]
  rfl
 refine last_ (i := 7) (N := none) #[true, true, true, true, true, true, true, true, false, false] rfl rfl (one_of HT_.out (by kernel_rfl)) (by decide) (fun K hK => ?_)
 have hs10 := bk_ BK101.out 5 (.slice A0_5 l0_5.length c0_5)
 have hfs10 := blk_frozen BK101.out 5
 have hns10_1 := NB102_101.out
 have hms10_1 := NB101_102.out
 refine skip_ (w1 := ?_) (by rfl) rfl ?_ ?_
 rotate_left
 ·go_simp
  rfl
 refine hK.out _ _ ?_
 clear hK K
 refine pure_ (i := 8) (N := some 10) (v := ?_) (a' := ?_) #[true, true, true, true, true, true, true, true, true, false] rfl rfl (any_of HT_.out (by kernel_rfl)) (fun _ _ _ h => h) (Or.inl ⟨by rfl, ?_⟩) ?_ ?_
 rotate_left
 ·intro w'
  go_simp
  with_reducible rfl
 rotate_left
 ·simp only [Act.put, List.setIfInBounds_toArray, List.set_cons_zero, List.set_cons_succ, i64_w, i32_w]
  rfl
 refine last_ (i := 9) (N := none) #[true, true, true, true, true, true, true, true, true, true] rfl rfl (one_of HT_.out (by kernel_rfl)) (by decide) (fun K hK => ?_)
 have hs12 := bk_ BK101.out 6 (.slice A0_6 l0_6.length c0_6)
 have hfs12 := blk_frozen BK101.out 6
 have hns12_1 := NB102_101.out
 have hms12_1 := NB101_102.out
 refine skip_ (w1 := ?_) (by rfl) rfl ?_ ?_
 rotate_left
 ·go_simp
  rfl
 refine hK.out _ _ ?_
 clear hK K
 refine done_ (done_of HT_.out (by kernel_rfl)) ?_
 have hnb13 := NB101_102.out
 have hnc13 := NB102_101.out
 obtain ⟨hcz14_0, hcz14_1, hcz14_2, hcz14_3, hcz14_4, hcz14_5, hcz14_6, hcz14_7⟩ := cz8_ BK101.out
 obtain ⟨hfz14_0, hfz14_1, hfz14_2, hfz14_3, hfz14_4, hfz14_5, hfz14_6, hfz14_7⟩ := fz8_ BK101.out
 obtain ⟨hcz15_0, hcz15_1, hcz15_2, hcz15_3, hcz15_4, hcz15_5, hcz15_6, hcz15_7⟩ := cz8_ BK102.out
 obtain ⟨hfz15_0, hfz15_1, hfz15_2, hfz15_3, hfz15_4, hfz15_5, hfz15_6, hfz15_7⟩ := fz8_ BK102.out
 try go_wp2
 refine bodyPost_ret (results_cell_row rfl _ _ gb102 45 #[.int .i64 a0_0, .string a0_1, .int .i64 a0_2, .int .i64 a0_3, .bool a0_4, .slice Ao9 t103.length co9, .slice Ao11 t106.length co11, .bool a0_7] (0, 0) _ rfl (by (with_reducible repeat (first | refine blk_drewN ?_ _ | refine blk_drew ?_ | refine blk_alloc ?_ _)); refine blk_put (cs := #[.int .i64 a0_0, .string a0_1, .int .i64 a0_2, .int .i64 a0_3, .bool a0_4, .slice Ao9 t103.length co9, .slice Ao11 t106.length co11, .bool false]) ?_ 7 _ rfl; (with_reducible repeat (first | refine blk_drewN ?_ _ | refine blk_drew ?_ | refine blk_alloc ?_ _)); refine blk_put (cs := #[.int .i64 a0_0, .string a0_1, .int .i64 a0_2, .int .i64 a0_3, .bool a0_4, .slice Ao9 t103.length co9, .slice none 0 0, .bool false]) ?_ 6 _ rfl; (with_reducible repeat (first | refine blk_drewN ?_ _ | refine blk_drew ?_ | refine blk_alloc ?_ _)); refine blk_put (cs := #[.int .i64 a0_0, .string a0_1, .int .i64 a0_2, .int .i64 a0_3, .bool a0_4, .slice none 0 0, .slice none 0 0, .bool false]) ?_ 5 _ rfl; (with_reducible repeat (first | refine blk_drewN ?_ _ | refine blk_drew ?_ | refine blk_alloc ?_ _)); refine blk_put (cs := #[.int .i64 a0_0, .string a0_1, .int .i64 a0_2, .int .i64 a0_3, .bool false, .slice none 0 0, .slice none 0 0, .bool false]) ?_ 4 _ rfl; (with_reducible repeat (first | refine blk_drewN ?_ _ | refine blk_drew ?_ | refine blk_alloc ?_ _)); refine blk_put (cs := #[.int .i64 a0_0, .string a0_1, .int .i64 a0_2, .int .i64 0, .bool false, .slice none 0 0, .slice none 0 0, .bool false]) ?_ 3 _ rfl; (with_reducible repeat (first | refine blk_drewN ?_ _ | refine blk_drew ?_ | refine blk_alloc ?_ _)); refine blk_put (cs := #[.int .i64 a0_0, .string a0_1, .int .i64 0, .int .i64 0, .bool false, .slice none 0 0, .slice none 0 0, .bool false]) ?_ 2 _ rfl; (with_reducible repeat (first | refine blk_drewN ?_ _ | refine blk_drew ?_ | refine blk_alloc ?_ _)); refine blk_put (cs := #[.int .i64 a0_0, .string (⟨#[]⟩ : ByteArray), .int .i64 0, .int .i64 0, .bool false, .slice none 0 0, .slice none 0 0, .bool false]) ?_ 1 _ rfl; (with_reducible repeat (first | refine blk_drewN ?_ _ | refine blk_drew ?_ | refine blk_alloc ?_ _)); refine blk_put (cs := #[.int .i64 0, .string (⟨#[]⟩ : ByteArray), .int .i64 0, .int .i64 0, .bool false, .slice none 0 0, .slice none 0 0, .bool false]) ?_ 0 _ rfl; (with_reducible repeat (first | refine blk_drewN ?_ _ | refine blk_drew ?_ | refine blk_alloc ?_ _)); refine blk_far ?_ NB102_101.out _; (with_reducible repeat (first | refine blk_drewN ?_ _ | refine blk_drew ?_ | refine blk_alloc ?_ _)); refine blk_far ?_ NB102_101.out _; (with_reducible repeat (first | refine blk_drewN ?_ _ | refine blk_drew ?_ | refine blk_alloc ?_ _)); exact BK102.out) Try.underlying45 rfl (by kernel_rfl)) rfl ?_
 exact ⟨_, _, by first | rfl | (simp [errW_none, errW_some] <;> rfl) | (simp [*, errW_none, errW_some] <;> rfl), by (with_reducible repeat (first | apply Kd.R_alloc | apply Kd.R_drewN | apply Kd.R_drew)); exact Kd.R_mono (Kd.R_far (p := ⟨gb102, 7, none⟩) (Kd.R_far (p := ⟨gb102, 6, none⟩) (Kd.R_far (p := ⟨gb102, 5, none⟩) (Kd.R_far (p := ⟨gb102, 4, none⟩) (Kd.R_far (p := ⟨gb102, 3, none⟩) (Kd.R_far (p := ⟨gb102, 2, none⟩) (Kd.R_far (p := ⟨gb102, 1, none⟩) (Kd.R_far (p := ⟨gb102, 0, none⟩) (Kd.R_far (p := ⟨gb101, 6, none⟩) (Kd.R_far (p := ⟨gb101, 5, none⟩) (Kd.R_types (Kd.R_types HO105.out BK101.out (by decide)) BK102.out (by decide)) (fun _ hk => hk.1.2) (.slice Ao9 t103.length co9)) (fun _ hk => hk.1.2) (.slice Ao11 t106.length co11)) (fun _ hk => hk.2) (.int .i64 a0_0)) (fun _ hk => hk.2) (.string a0_1)) (fun _ hk => hk.2) (.int .i64 a0_2)) (fun _ hk => hk.2) (.int .i64 a0_3)) (fun _ hk => hk.2) (.bool a0_4)) (fun _ hk => hk.2) (.slice Ao9 t103.length co9)) (fun _ hk => hk.2) (.slice Ao11 t106.length co11)) (fun _ hk => hk.2) (.bool a0_7)) (fun _ hk => hk.1.1.2), by (with_reducible repeat (first | apply Kd.R_alloc | apply Kd.R_drewN | apply Kd.R_drew)); exact Kd.R_mono (Kd.R_far (p := ⟨gb102, 7, none⟩) (Kd.R_far (p := ⟨gb102, 6, none⟩) (Kd.R_far (p := ⟨gb102, 5, none⟩) (Kd.R_far (p := ⟨gb102, 4, none⟩) (Kd.R_far (p := ⟨gb102, 3, none⟩) (Kd.R_far (p := ⟨gb102, 2, none⟩) (Kd.R_far (p := ⟨gb102, 1, none⟩) (Kd.R_far (p := ⟨gb102, 0, none⟩) (Kd.R_far (p := ⟨gb101, 6, none⟩) (Kd.R_far (p := ⟨gb101, 5, none⟩) (Kd.R_types (Kd.R_types HO108.out BK101.out (by decide)) BK102.out (by decide)) (fun _ hk => hk.1.2) (.slice Ao9 t103.length co9)) (fun _ hk => hk.1.2) (.slice Ao11 t106.length co11)) (fun _ hk => hk.2) (.int .i64 a0_0)) (fun _ hk => hk.2) (.string a0_1)) (fun _ hk => hk.2) (.int .i64 a0_2)) (fun _ hk => hk.2) (.int .i64 a0_3)) (fun _ hk => hk.2) (.bool a0_4)) (fun _ hk => hk.2) (.slice Ao9 t103.length co9)) (fun _ hk => hk.2) (.slice Ao11 t106.length co11)) (fun _ hk => hk.2) (.bool a0_7)) (fun _ hk => hk.1.1.2), by repeat (first | (with_reducible first | exact HB.out | apply below_alloc | apply pw_below_drewN | apply below_drew1 | refine below_set ?_ GE101.out | refine below_set ?_ GE102.out) | exact HB.out)⟩
end
section
attribute [local go_sem] max2_int min2_int max_two min_two max_three min_three max_four min_four
def impl_goodClient.f (a0_0 : Int) (a0_1 : ByteArray) (a0_2 : Int) (a0_3 : Int) (a0_4 : Bool) (l0_5 : List (S86)) (l0_6 : List (S86)) (a0_7 : Bool) : Option (Int × ByteArray × Int × Int × Bool × (List (S86)) × (List (S86)) × Bool × Bool) := (impl_isClient.f a0_0 a0_1 a0_2 a0_3 a0_4 l0_5 l0_6 a0_7).bind fun t103 => (if t103 = true then (some (a0_0, a0_1, a0_2, a0_3, a0_4, l0_5, l0_6, a0_7, true)) else (some (0, (⟨#[]⟩ : ByteArray), 0, 0, false, ([] : List (S86)), ([] : List (S86)), false, false)))
set_option maxHeartbeats 8000000 in
set_option maxRecDepth 100000 in
theorem impl_goodClient.calls (a0_0 : Int) (a0_1 : ByteArray) (a0_2 : Int) (a0_3 : Int) (a0_4 : Bool) (P0_5_ : Nat → Prop) (u9000_ : Value) (l0_5 : List (S86)) (P0_6_ : Nat → Prop) (u9001_ : Value) (l0_6 : List (S86)) (a0_7 : Bool) (r1 : Int) (r2 : ByteArray) (r3 : Int) (r4 : Int) (r5 : Bool) (r6 : List (S86)) (r7 : List (S86)) (r8 : Bool) (r9 : Bool) (w0 w : World) (hB : Below w0.heap.size w0 w) (ho0_5 : Kd.R k86 86 w w0.heap.size P0_5_ u9000_ l0_5) (hp0_5_0_6 : ∀ k_, P0_5_ k_ → ¬ P0_6_ k_) (ho0_6 : Kd.R k86 86 w w0.heap.size P0_6_ u9001_ l0_6) (hp0_6_0_5 : ∀ k_, P0_6_ k_ → ¬ P0_5_ k_) (h : impl_goodClient.f a0_0 a0_1 a0_2 a0_3 a0_4 l0_5 l0_6 a0_7 = some (r1, r2, r3, r4, r5, r6, r7, r8, r9)) :
  Calls Try.prog 68 #[.agg #[.int .i64 a0_0, .string a0_1, .int .i64 a0_2, .int .i64 a0_3, .bool a0_4, u9000_, u9001_, .bool a0_7]] w fun e w' => ∃ v5_ v6_ : Value, e = .returned (.tuple #[.agg #[.int .i64 r1, .string r2, .int .i64 r3, .int .i64 r4, .bool r5, v5_, v6_, .bool r8], .bool r9]) ∧ Kd.R k86 86 w' w0.heap.size (fun k_ => ((P0_5_ k_ ∨ P0_6_ k_) ∨ w.heap.size ≤ k_) ∧ some k_ ≠ (v6_ : Value).ownBlock) v5_ r6 ∧ Kd.R k86 86 w' w0.heap.size (fun k_ => ((P0_5_ k_ ∨ P0_6_ k_) ∨ w.heap.size ≤ k_) ∧ some k_ ≠ (v5_ : Value).ownBlock) v6_ r7 ∧ Below w0.heap.size w0 w' ∧ Kept w w' (fun k_ => P0_5_ k_ ∨ P0_6_ k_) := by
 have hu45 := Try.underlying45
 have HO0_5 := mz (show Kd.R k86 86 w w0.heap.size (fun k_ => ((P0_5_ k_ ∨ P0_6_ k_) ∨ w.heap.size ≤ k_) ∧ some k_ ≠ (u9001_ : Value).ownBlock) u9000_ l0_5 from Kd.R_mono ho0_5 (fun k_ hk => ⟨(.inl (.inl hk)), fun e_ => hp0_5_0_6 k_ hk (ho0_6.1 k_ e_.symm)⟩))
 have HO0_6 := mz (show Kd.R k86 86 w w0.heap.size (fun k_ => ((P0_5_ k_ ∨ P0_6_ k_) ∨ w.heap.size ≤ k_) ∧ some k_ ≠ (u9000_ : Value).ownBlock) u9001_ l0_6 from Kd.R_mono ho0_6 (fun k_ hk => ⟨(.inl (.inr hk)), fun e_ => hp0_6_0_5 k_ hk (ho0_5.1 k_ e_.symm)⟩))
 have HK := mz (Kept.refl w (fun k_ => P0_5_ k_ ∨ P0_6_ k_))
 have HW0 := mz hB.size
 have HB := mz hB
 clear hB
 have H : ((impl_isClient.f a0_0 a0_1 a0_2 a0_3 a0_4 l0_5 l0_6 a0_7).bind fun t103 => (if t103 = true then (some (a0_0, a0_1, a0_2, a0_3, a0_4, l0_5, l0_6, a0_7, true)) else (some (0, (⟨#[]⟩ : ByteArray), 0, 0, false, ([] : List (S86)), ([] : List (S86)), false, false)))) = some (r1, r2, r3, r4, r5, r6, r7, r8, r9) := h
 clear h
 replace H := be0_ H
 obtain ⟨t103, A20, H⟩ := H
 replace H : (if t103 = true then (some (a0_0, a0_1, a0_2, a0_3, a0_4, l0_5, l0_6, a0_7, true)) else (some (0, (⟨#[]⟩ : ByteArray), 0, 0, false, ([] : List (S86)), ([] : List (S86)), false, false))) = some (r1, r2, r3, r4, r5, r6, r7, r8, r9) := H
 have A2 := mz A20
 clear A20
 by_cases c3 : t103 = true
 ·subst c3
  have H1 : (some (a0_0, a0_1, a0_2, a0_3, a0_4, l0_5, l0_6, a0_7, true)) = some (r1, r2, r3, r4, r5, r6, r7, r8, r9) := by rw [if_pos rfl] at H; exact H
  clear H
  have H := H1
  clear H1
  simp only [Option.some.injEq, Prod.mk.injEq] at H
  obtain ⟨rfl, rfl, rfl, rfl, rfl, rfl, rfl, rfl, rfl⟩ := H
  obtain ⟨Ao4, co4, eo4⟩ := Kd.R_slice HO0_5.out
  subst eo4
  obtain ⟨Ao5, co5, eo5⟩ := Kd.R_slice HO0_6.out
  subst eo5
  go_enter Try.func68, Try.ntmps68
  go_wp2_with (first | ((with_reducible refine gate_dst (N := 1) rfl ?_); refine bz_ 1 #[.int .i64 a0_0, .string a0_1, .int .i64 a0_2, .int .i64 a0_3, .bool a0_4, .slice Ao4 l0_5.length co4, .slice Ao5 l0_6.length co5, .bool a0_7] 45 ?_; intro gb101 hg w6 hbox hb; have n0_ := mz (Kd.R_below a17_ hb); have n1_ := mz (Kd.R_below a18_ hb); have n2_ := mz (Kept.below (S := (fun k_ => P0_5_ k_ ∨ P0_6_ k_)) a13_ hb); have n3_ := mz (bs0_ hb); have n4_ := mz (hbox); have n5_ := mz ((by rw [hg]; exact a4_ : w.heap.size ≤ gb101)); have n6_ := mz ((by rw [hg]; exact bz1_ : w0.heap.size ≤ gb101)); clear HO0_5; clear HO0_6; clear HK; clear HB; have HO0_5 := n0_; have HO0_6 := n1_; have HK := n2_; have HB := n3_; have BK101 := n4_; have GW101 := n5_; have GE101 := n6_; clear n0_ n1_ n2_ n3_ n4_ n5_ n6_; clear hb hbox hg) | ((with_reducible refine gate_dst (N := 2) rfl ?_); refine bz_ 2 #[.int .i64 0, .string (⟨#[]⟩ : ByteArray), .int .i64 0, .int .i64 0, .bool false, .slice none 0 0, .slice none 0 0, .bool false] 45 ?_; intro gb102 hg w7 hbox hb; have n0_ := mz (Kd.R_below a17_ hb); have n1_ := mz (Kd.R_below a18_ hb); have n2_ := mz (blk_below (g := gb101) (o := .cells #[.int .i64 a0_0, .string a0_1, .int .i64 a0_2, .int .i64 a0_3, .bool a0_4, .slice Ao4 l0_5.length co4, .slice Ao5 l0_6.length co5, .bool a0_7] 45 (0, 0)) a14_ hb); have n3_ := mz (Kept.below (S := (fun k_ => P0_5_ k_ ∨ P0_6_ k_)) a7_ hb); have n4_ := mz (bs2_ hb); have n5_ := mz (hbox); have n6_ := mz ((by rw [hg]; exact a0_ : w.heap.size ≤ gb102)); have n7_ := mz ((by rw [hg]; exact bz5_ : w0.heap.size ≤ gb102)); have n8_ := mz ((by rw [hg]; exact Nat.ne_of_lt (blk_lt (g := gb101) (o := .cells #[.int .i64 a0_0, .string a0_1, .int .i64 a0_2, .int .i64 a0_3, .bool a0_4, .slice Ao4 l0_5.length co4, .slice Ao5 l0_6.length co5, .bool a0_7] 45 (0, 0)) a14_) : gb101 ≠ gb102)); have n9_ := mz ((by rw [hg]; exact Nat.ne_of_gt (blk_lt (g := gb101) (o := .cells #[.int .i64 a0_0, .string a0_1, .int .i64 a0_2, .int .i64 a0_3, .bool a0_4, .slice Ao4 l0_5.length co4, .slice Ao5 l0_6.length co5, .bool a0_7] 45 (0, 0)) a14_) : gb102 ≠ gb101)); clear HO0_5; clear HO0_6; clear BK101; clear HK; clear HB; have HO0_5 := n0_; have HO0_6 := n1_; have BK101 := n2_; have HK := n3_; have HB := n4_; have BK102 := n5_; have GW102 := n6_; have GE102 := n7_; have NB101_102 := n8_; have NB102_101 := n9_; clear n0_ n1_ n2_ n3_ n4_ n5_ n6_ n7_ n8_ n9_; clear hb hbox hg; have hnb8 := NB101_102.out; have hnc8 := NB102_101.out; have hcz9_0 := bk_ BK101.out 0 (.int .i64 a0_0); have hcz9_1 := bk_ BK101.out 1 (.string a0_1); have hcz9_2 := bk_ BK101.out 2 (.int .i64 a0_2); have hcz9_3 := bk_ BK101.out 3 (.int .i64 a0_3); have hcz9_4 := bk_ BK101.out 4 (.bool a0_4); have hcz9_5 := bk_ BK101.out 5 (.slice Ao4 l0_5.length co4); have hcz9_6 := bk_ BK101.out 6 (.slice Ao5 l0_6.length co5); have hcz9_7 := bk_ BK101.out 7 (.bool a0_7); have hfz9_0 := blk_frozen BK101.out 0; have hfz9_1 := blk_frozen BK101.out 1; have hfz9_2 := blk_frozen BK101.out 2; have hfz9_3 := blk_frozen BK101.out 3; have hfz9_4 := blk_frozen BK101.out 4; have hfz9_5 := blk_frozen BK101.out 5; have hfz9_6 := blk_frozen BK101.out 6; have hfz9_7 := blk_frozen BK101.out 7) | ((with_reducible refine gate_callee (f := 65) rfl ?_); refine goesL_ (some 5) rfl rfl Try.func65 (by kernel_rfl) rfl #[.agg #[.int .i64 a0_0, .string a0_1, .int .i64 a0_2, .int .i64 a0_3, .bool a0_4, .slice Ao4 l0_5.length co4, .slice Ao5 l0_6.length co5, .bool a0_7]] rfl a11_ ?_; (with_reducible refine (impl_isClient.calls a0_0 a0_1 a0_2 a0_3 a0_4 _ _ l0_5 _ _ l0_6 a0_7 true _ ?side1 ?side2 ?side3 ?side4 A2.out).mono ?_); (case side1 => repeat (first | exact (Kd.R_reads' HO0_5.out).2.2 | (with_reducible refine Kd.C_alloc ?_ _) | (with_reducible refine Kd.C_drewN ?_ _) | (with_reducible refine Kd.C_drew ?_))); (case side2 => exact (Kd.R_reads' HO0_5.out).2.1); (case side3 => repeat (first | exact (Kd.R_reads' HO0_6.out).2.2 | (with_reducible refine Kd.C_alloc ?_ _) | (with_reducible refine Kd.C_drewN ?_ _) | (with_reducible refine Kd.C_drew ?_))); (case side4 => exact (Kd.R_reads' HO0_6.out).2.1); rintro e w10 ⟨rfl, hb⟩; refine ⟨_, rfl, ?_⟩; have n0_ := mz (Kd.R_below a17_ hb); have n1_ := mz (Kd.R_below a18_ hb); have n2_ := mz (blk_below (g := gb101) (o := .cells #[.int .i64 a0_0, .string a0_1, .int .i64 a0_2, .int .i64 a0_3, .bool a0_4, .slice Ao4 l0_5.length co4, .slice Ao5 l0_6.length co5, .bool a0_7] 45 (0, 0)) a14_ hb); have n3_ := mz (blk_below (g := gb102) (o := .cells #[.int .i64 0, .string (⟨#[]⟩ : ByteArray), .int .i64 0, .int .i64 0, .bool false, .slice none 0 0, .slice none 0 0, .bool false] 45 (0, 0)) a15_ hb); have n4_ := mz (Kept.below (S := (fun k_ => P0_5_ k_ ∨ P0_6_ k_)) a5_ hb); have n5_ := mz (bs4_ hb); clear HO0_5; clear HO0_6; clear BK101; clear BK102; clear HK; clear HB; have HO0_5 := n0_; have HO0_6 := n1_; have BK101 := n2_; have BK102 := n3_; have HK := n4_; have HB := n5_; clear n0_ n1_ n2_ n3_ n4_ n5_; (try clear hb); (try clear hb2); (try clear hk); (try clear hi); have hcz11_0 := bk_ BK101.out 0 (.int .i64 a0_0); have hcz11_1 := bk_ BK101.out 1 (.string a0_1); have hcz11_2 := bk_ BK101.out 2 (.int .i64 a0_2); have hcz11_3 := bk_ BK101.out 3 (.int .i64 a0_3); have hcz11_4 := bk_ BK101.out 4 (.bool a0_4); have hcz11_5 := bk_ BK101.out 5 (.slice Ao4 l0_5.length co4); have hcz11_6 := bk_ BK101.out 6 (.slice Ao5 l0_6.length co5); have hcz11_7 := bk_ BK101.out 7 (.bool a0_7); have hfz11_0 := blk_frozen BK101.out 0; have hfz11_1 := blk_frozen BK101.out 1; have hfz11_2 := blk_frozen BK101.out 2; have hfz11_3 := blk_frozen BK101.out 3; have hfz11_4 := blk_frozen BK101.out 4; have hfz11_5 := blk_frozen BK101.out 5; have hfz11_6 := blk_frozen BK101.out 6; have hfz11_7 := blk_frozen BK101.out 7; have hcz12_0 := bk_ BK102.out 0 (.int .i64 0); have hcz12_1 := bk_ BK102.out 1 (.string (⟨#[]⟩ : ByteArray)); have hcz12_2 := bk_ BK102.out 2 (.int .i64 0); have hcz12_3 := bk_ BK102.out 3 (.int .i64 0); have hcz12_4 := bk_ BK102.out 4 (.bool false); have hcz12_5 := bk_ BK102.out 5 (.slice none 0 0); have hcz12_6 := bk_ BK102.out 6 (.slice none 0 0); have hcz12_7 := bk_ BK102.out 7 (.bool false); have hfz12_0 := blk_frozen BK102.out 0; have hfz12_1 := blk_frozen BK102.out 1; have hfz12_2 := blk_frozen BK102.out 2; have hfz12_3 := blk_frozen BK102.out 3; have hfz12_4 := blk_frozen BK102.out 4; have hfz12_5 := blk_frozen BK102.out 5; have hfz12_6 := blk_frozen BK102.out 6; have hfz12_7 := blk_frozen BK102.out 7))
  refine bodyPost_ret (results_ct rfl _ _ gb102 45 #[.int .i64 a0_0, .string a0_1, .int .i64 a0_2, .int .i64 a0_3, .bool a0_4, .slice Ao4 l0_5.length co4, .slice Ao5 l0_6.length co5, .bool a0_7] (0, 0) _ rfl (by (with_reducible repeat (first | refine blk_drewN ?_ _ | refine blk_drew ?_ | refine blk_alloc ?_ _)); refine blk_put (cs := #[.int .i64 a0_0, .string a0_1, .int .i64 a0_2, .int .i64 a0_3, .bool a0_4, .slice Ao4 l0_5.length co4, .slice Ao5 l0_6.length co5, .bool false]) ?_ 7 _ rfl; (with_reducible repeat (first | refine blk_drewN ?_ _ | refine blk_drew ?_ | refine blk_alloc ?_ _)); refine blk_put (cs := #[.int .i64 a0_0, .string a0_1, .int .i64 a0_2, .int .i64 a0_3, .bool a0_4, .slice Ao4 l0_5.length co4, .slice none 0 0, .bool false]) ?_ 6 _ rfl; (with_reducible repeat (first | refine blk_drewN ?_ _ | refine blk_drew ?_ | refine blk_alloc ?_ _)); refine blk_put (cs := #[.int .i64 a0_0, .string a0_1, .int .i64 a0_2, .int .i64 a0_3, .bool a0_4, .slice none 0 0, .slice none 0 0, .bool false]) ?_ 5 _ rfl; (with_reducible repeat (first | refine blk_drewN ?_ _ | refine blk_drew ?_ | refine blk_alloc ?_ _)); refine blk_put (cs := #[.int .i64 a0_0, .string a0_1, .int .i64 a0_2, .int .i64 a0_3, .bool false, .slice none 0 0, .slice none 0 0, .bool false]) ?_ 4 _ rfl; (with_reducible repeat (first | refine blk_drewN ?_ _ | refine blk_drew ?_ | refine blk_alloc ?_ _)); refine blk_put (cs := #[.int .i64 a0_0, .string a0_1, .int .i64 a0_2, .int .i64 0, .bool false, .slice none 0 0, .slice none 0 0, .bool false]) ?_ 3 _ rfl; (with_reducible repeat (first | refine blk_drewN ?_ _ | refine blk_drew ?_ | refine blk_alloc ?_ _)); refine blk_put (cs := #[.int .i64 a0_0, .string a0_1, .int .i64 0, .int .i64 0, .bool false, .slice none 0 0, .slice none 0 0, .bool false]) ?_ 2 _ rfl; (with_reducible repeat (first | refine blk_drewN ?_ _ | refine blk_drew ?_ | refine blk_alloc ?_ _)); refine blk_put (cs := #[.int .i64 a0_0, .string (⟨#[]⟩ : ByteArray), .int .i64 0, .int .i64 0, .bool false, .slice none 0 0, .slice none 0 0, .bool false]) ?_ 1 _ rfl; (with_reducible repeat (first | refine blk_drewN ?_ _ | refine blk_drew ?_ | refine blk_alloc ?_ _)); refine blk_put (cs := #[.int .i64 0, .string (⟨#[]⟩ : ByteArray), .int .i64 0, .int .i64 0, .bool false, .slice none 0 0, .slice none 0 0, .bool false]) ?_ 0 _ rfl; (with_reducible repeat (first | refine blk_drewN ?_ _ | refine blk_drew ?_ | refine blk_alloc ?_ _)); exact BK102.out) Try.underlying45 rfl (by kernel_rfl)) rfl ?_
  exact ⟨_, _, by first | rfl | (simp [errW_none, errW_some] <;> rfl) | (simp [*, errW_none, errW_some] <;> rfl), by (with_reducible repeat (first | apply Kd.R_alloc | apply Kd.R_drewN | apply Kd.R_drew)); exact Kd.R_mono (Kd.R_far (p := ⟨gb102, 7, none⟩) (Kd.R_far (p := ⟨gb102, 6, none⟩) (Kd.R_far (p := ⟨gb102, 5, none⟩) (Kd.R_far (p := ⟨gb102, 4, none⟩) (Kd.R_far (p := ⟨gb102, 3, none⟩) (Kd.R_far (p := ⟨gb102, 2, none⟩) (Kd.R_far (p := ⟨gb102, 1, none⟩) (Kd.R_far (p := ⟨gb102, 0, none⟩) (Kd.R_types HO0_5.out BK102.out (by decide)) (fun _ hk => hk.2) (.int .i64 a0_0)) (fun _ hk => hk.2) (.string a0_1)) (fun _ hk => hk.2) (.int .i64 a0_2)) (fun _ hk => hk.2) (.int .i64 a0_3)) (fun _ hk => hk.2) (.bool a0_4)) (fun _ hk => hk.2) (.slice Ao4 l0_5.length co4)) (fun _ hk => hk.2) (.slice Ao5 l0_6.length co5)) (fun _ hk => hk.2) (.bool a0_7)) (fun _ hk => ⟨hk.1.1, hk.1.2⟩), by (with_reducible repeat (first | apply Kd.R_alloc | apply Kd.R_drewN | apply Kd.R_drew)); exact Kd.R_mono (Kd.R_far (p := ⟨gb102, 7, none⟩) (Kd.R_far (p := ⟨gb102, 6, none⟩) (Kd.R_far (p := ⟨gb102, 5, none⟩) (Kd.R_far (p := ⟨gb102, 4, none⟩) (Kd.R_far (p := ⟨gb102, 3, none⟩) (Kd.R_far (p := ⟨gb102, 2, none⟩) (Kd.R_far (p := ⟨gb102, 1, none⟩) (Kd.R_far (p := ⟨gb102, 0, none⟩) (Kd.R_types HO0_6.out BK102.out (by decide)) (fun _ hk => hk.2) (.int .i64 a0_0)) (fun _ hk => hk.2) (.string a0_1)) (fun _ hk => hk.2) (.int .i64 a0_2)) (fun _ hk => hk.2) (.int .i64 a0_3)) (fun _ hk => hk.2) (.bool a0_4)) (fun _ hk => hk.2) (.slice Ao4 l0_5.length co4)) (fun _ hk => hk.2) (.slice Ao5 l0_6.length co5)) (fun _ hk => hk.2) (.bool a0_7)) (fun _ hk => ⟨hk.1.1, hk.1.2⟩), by repeat (first | (with_reducible first | exact HB.out | apply below_alloc | apply pw_below_drewN | apply below_drew1 | refine below_set ?_ GE101.out | refine below_set ?_ GE102.out) | exact HB.out), by repeat (first | (with_reducible first | exact HK.out | apply Kept.alloc | apply Kept.drewN | apply Kept.drew | refine Kept.setCell ?_ (.inr GW101.out) _ | refine Kept.setCell ?_ (.inr GW102.out) _) | exact HK.out)⟩
 ·replace c3 := Bool.eq_false_iff.mpr c3
  subst c3
  have H1 : (some (0, (⟨#[]⟩ : ByteArray), 0, 0, false, ([] : List (S86)), ([] : List (S86)), false, false)) = some (r1, r2, r3, r4, r5, r6, r7, r8, r9) := by rw [if_neg (show ¬ (false = true) by decide)] at H; exact H
  clear H
  have H := H1
  clear H1
  simp only [Option.some.injEq, Prod.mk.injEq] at H
  obtain ⟨rfl, rfl, rfl, rfl, rfl, rfl, rfl, rfl, rfl⟩ := H
  obtain ⟨Ao13, co13, eo13⟩ := Kd.R_slice HO0_5.out
  subst eo13
  obtain ⟨Ao14, co14, eo14⟩ := Kd.R_slice HO0_6.out
  subst eo14
  go_enter Try.func68, Try.ntmps68
  go_wp2_with (first | ((with_reducible refine gate_dst (N := 1) rfl ?_); refine bz_ 1 #[.int .i64 a0_0, .string a0_1, .int .i64 a0_2, .int .i64 a0_3, .bool a0_4, .slice Ao13 l0_5.length co13, .slice Ao14 l0_6.length co14, .bool a0_7] 45 ?_; intro gb101 hg w15 hbox hb; have n0_ := mz (Kd.R_below a17_ hb); have n1_ := mz (Kd.R_below a18_ hb); have n2_ := mz (Kept.below (S := (fun k_ => P0_5_ k_ ∨ P0_6_ k_)) a13_ hb); have n3_ := mz (bs0_ hb); have n4_ := mz (hbox); have n5_ := mz ((by rw [hg]; exact a4_ : w.heap.size ≤ gb101)); have n6_ := mz ((by rw [hg]; exact bz1_ : w0.heap.size ≤ gb101)); clear HO0_5; clear HO0_6; clear HK; clear HB; have HO0_5 := n0_; have HO0_6 := n1_; have HK := n2_; have HB := n3_; have BK101 := n4_; have GW101 := n5_; have GE101 := n6_; clear n0_ n1_ n2_ n3_ n4_ n5_ n6_; clear hb hbox hg) | ((with_reducible refine gate_dst (N := 2) rfl ?_); refine bz_ 2 #[.int .i64 0, .string (⟨#[]⟩ : ByteArray), .int .i64 0, .int .i64 0, .bool false, .slice none 0 0, .slice none 0 0, .bool false] 45 ?_; intro gb102 hg w16 hbox hb; have n0_ := mz (Kd.R_below a17_ hb); have n1_ := mz (Kd.R_below a18_ hb); have n2_ := mz (blk_below (g := gb101) (o := .cells #[.int .i64 a0_0, .string a0_1, .int .i64 a0_2, .int .i64 a0_3, .bool a0_4, .slice Ao13 l0_5.length co13, .slice Ao14 l0_6.length co14, .bool a0_7] 45 (0, 0)) a14_ hb); have n3_ := mz (Kept.below (S := (fun k_ => P0_5_ k_ ∨ P0_6_ k_)) a7_ hb); have n4_ := mz (bs2_ hb); have n5_ := mz (hbox); have n6_ := mz ((by rw [hg]; exact a0_ : w.heap.size ≤ gb102)); have n7_ := mz ((by rw [hg]; exact bz5_ : w0.heap.size ≤ gb102)); have n8_ := mz ((by rw [hg]; exact Nat.ne_of_lt (blk_lt (g := gb101) (o := .cells #[.int .i64 a0_0, .string a0_1, .int .i64 a0_2, .int .i64 a0_3, .bool a0_4, .slice Ao13 l0_5.length co13, .slice Ao14 l0_6.length co14, .bool a0_7] 45 (0, 0)) a14_) : gb101 ≠ gb102)); have n9_ := mz ((by rw [hg]; exact Nat.ne_of_gt (blk_lt (g := gb101) (o := .cells #[.int .i64 a0_0, .string a0_1, .int .i64 a0_2, .int .i64 a0_3, .bool a0_4, .slice Ao13 l0_5.length co13, .slice Ao14 l0_6.length co14, .bool a0_7] 45 (0, 0)) a14_) : gb102 ≠ gb101)); clear HO0_5; clear HO0_6; clear BK101; clear HK; clear HB; have HO0_5 := n0_; have HO0_6 := n1_; have BK101 := n2_; have HK := n3_; have HB := n4_; have BK102 := n5_; have GW102 := n6_; have GE102 := n7_; have NB101_102 := n8_; have NB102_101 := n9_; clear n0_ n1_ n2_ n3_ n4_ n5_ n6_ n7_ n8_ n9_; clear hb hbox hg; have hnb17 := NB101_102.out; have hnc17 := NB102_101.out; have hcz18_0 := bk_ BK101.out 0 (.int .i64 a0_0); have hcz18_1 := bk_ BK101.out 1 (.string a0_1); have hcz18_2 := bk_ BK101.out 2 (.int .i64 a0_2); have hcz18_3 := bk_ BK101.out 3 (.int .i64 a0_3); have hcz18_4 := bk_ BK101.out 4 (.bool a0_4); have hcz18_5 := bk_ BK101.out 5 (.slice Ao13 l0_5.length co13); have hcz18_6 := bk_ BK101.out 6 (.slice Ao14 l0_6.length co14); have hcz18_7 := bk_ BK101.out 7 (.bool a0_7); have hfz18_0 := blk_frozen BK101.out 0; have hfz18_1 := blk_frozen BK101.out 1; have hfz18_2 := blk_frozen BK101.out 2; have hfz18_3 := blk_frozen BK101.out 3; have hfz18_4 := blk_frozen BK101.out 4; have hfz18_5 := blk_frozen BK101.out 5; have hfz18_6 := blk_frozen BK101.out 6; have hfz18_7 := blk_frozen BK101.out 7) | ((with_reducible refine gate_callee (f := 65) rfl ?_); refine goesL_ (some 5) rfl rfl Try.func65 (by kernel_rfl) rfl #[.agg #[.int .i64 a0_0, .string a0_1, .int .i64 a0_2, .int .i64 a0_3, .bool a0_4, .slice Ao13 l0_5.length co13, .slice Ao14 l0_6.length co14, .bool a0_7]] rfl a11_ ?_; (with_reducible refine (impl_isClient.calls a0_0 a0_1 a0_2 a0_3 a0_4 _ _ l0_5 _ _ l0_6 a0_7 false _ ?side1 ?side2 ?side3 ?side4 A2.out).mono ?_); (case side1 => repeat (first | exact (Kd.R_reads' HO0_5.out).2.2 | (with_reducible refine Kd.C_alloc ?_ _) | (with_reducible refine Kd.C_drewN ?_ _) | (with_reducible refine Kd.C_drew ?_))); (case side2 => exact (Kd.R_reads' HO0_5.out).2.1); (case side3 => repeat (first | exact (Kd.R_reads' HO0_6.out).2.2 | (with_reducible refine Kd.C_alloc ?_ _) | (with_reducible refine Kd.C_drewN ?_ _) | (with_reducible refine Kd.C_drew ?_))); (case side4 => exact (Kd.R_reads' HO0_6.out).2.1); rintro e w19 ⟨rfl, hb⟩; refine ⟨_, rfl, ?_⟩; have n0_ := mz (Kd.R_below a17_ hb); have n1_ := mz (Kd.R_below a18_ hb); have n2_ := mz (blk_below (g := gb101) (o := .cells #[.int .i64 a0_0, .string a0_1, .int .i64 a0_2, .int .i64 a0_3, .bool a0_4, .slice Ao13 l0_5.length co13, .slice Ao14 l0_6.length co14, .bool a0_7] 45 (0, 0)) a14_ hb); have n3_ := mz (blk_below (g := gb102) (o := .cells #[.int .i64 0, .string (⟨#[]⟩ : ByteArray), .int .i64 0, .int .i64 0, .bool false, .slice none 0 0, .slice none 0 0, .bool false] 45 (0, 0)) a15_ hb); have n4_ := mz (Kept.below (S := (fun k_ => P0_5_ k_ ∨ P0_6_ k_)) a5_ hb); have n5_ := mz (bs4_ hb); clear HO0_5; clear HO0_6; clear BK101; clear BK102; clear HK; clear HB; have HO0_5 := n0_; have HO0_6 := n1_; have BK101 := n2_; have BK102 := n3_; have HK := n4_; have HB := n5_; clear n0_ n1_ n2_ n3_ n4_ n5_; (try clear hb); (try clear hb2); (try clear hk); (try clear hi); have hcz20_0 := bk_ BK102.out 0 (.int .i64 0); have hcz20_1 := bk_ BK102.out 1 (.string (⟨#[]⟩ : ByteArray)); have hcz20_2 := bk_ BK102.out 2 (.int .i64 0); have hcz20_3 := bk_ BK102.out 3 (.int .i64 0); have hcz20_4 := bk_ BK102.out 4 (.bool false); have hcz20_5 := bk_ BK102.out 5 (.slice none 0 0); have hcz20_6 := bk_ BK102.out 6 (.slice none 0 0); have hcz20_7 := bk_ BK102.out 7 (.bool false); have hfz20_0 := blk_frozen BK102.out 0; have hfz20_1 := blk_frozen BK102.out 1; have hfz20_2 := blk_frozen BK102.out 2; have hfz20_3 := blk_frozen BK102.out 3; have hfz20_4 := blk_frozen BK102.out 4; have hfz20_5 := blk_frozen BK102.out 5; have hfz20_6 := blk_frozen BK102.out 6; have hfz20_7 := blk_frozen BK102.out 7))
  refine bodyPost_ret (results_ct rfl _ _ gb102 45 #[.int .i64 0, .string (⟨#[]⟩ : ByteArray), .int .i64 0, .int .i64 0, .bool false, .slice none 0 0, .slice none 0 0, .bool false] (0, 0) _ rfl (by (with_reducible repeat (first | refine blk_drewN ?_ _ | refine blk_drew ?_ | refine blk_alloc ?_ _)); refine blk_put (cs := #[.int .i64 0, .string (⟨#[]⟩ : ByteArray), .int .i64 0, .int .i64 0, .bool false, .slice none 0 0, .slice none 0 0, .bool false]) ?_ 7 _ rfl; (with_reducible repeat (first | refine blk_drewN ?_ _ | refine blk_drew ?_ | refine blk_alloc ?_ _)); refine blk_put (cs := #[.int .i64 0, .string (⟨#[]⟩ : ByteArray), .int .i64 0, .int .i64 0, .bool false, .slice none 0 0, .slice none 0 0, .bool false]) ?_ 6 _ rfl; (with_reducible repeat (first | refine blk_drewN ?_ _ | refine blk_drew ?_ | refine blk_alloc ?_ _)); refine blk_put (cs := #[.int .i64 0, .string (⟨#[]⟩ : ByteArray), .int .i64 0, .int .i64 0, .bool false, .slice none 0 0, .slice none 0 0, .bool false]) ?_ 5 _ rfl; (with_reducible repeat (first | refine blk_drewN ?_ _ | refine blk_drew ?_ | refine blk_alloc ?_ _)); refine blk_put (cs := #[.int .i64 0, .string (⟨#[]⟩ : ByteArray), .int .i64 0, .int .i64 0, .bool false, .slice none 0 0, .slice none 0 0, .bool false]) ?_ 4 _ rfl; (with_reducible repeat (first | refine blk_drewN ?_ _ | refine blk_drew ?_ | refine blk_alloc ?_ _)); refine blk_put (cs := #[.int .i64 0, .string (⟨#[]⟩ : ByteArray), .int .i64 0, .int .i64 0, .bool false, .slice none 0 0, .slice none 0 0, .bool false]) ?_ 3 _ rfl; (with_reducible repeat (first | refine blk_drewN ?_ _ | refine blk_drew ?_ | refine blk_alloc ?_ _)); refine blk_put (cs := #[.int .i64 0, .string (⟨#[]⟩ : ByteArray), .int .i64 0, .int .i64 0, .bool false, .slice none 0 0, .slice none 0 0, .bool false]) ?_ 2 _ rfl; (with_reducible repeat (first | refine blk_drewN ?_ _ | refine blk_drew ?_ | refine blk_alloc ?_ _)); refine blk_put (cs := #[.int .i64 0, .string (⟨#[]⟩ : ByteArray), .int .i64 0, .int .i64 0, .bool false, .slice none 0 0, .slice none 0 0, .bool false]) ?_ 1 _ rfl; (with_reducible repeat (first | refine blk_drewN ?_ _ | refine blk_drew ?_ | refine blk_alloc ?_ _)); refine blk_put (cs := #[.int .i64 0, .string (⟨#[]⟩ : ByteArray), .int .i64 0, .int .i64 0, .bool false, .slice none 0 0, .slice none 0 0, .bool false]) ?_ 0 _ rfl; (with_reducible repeat (first | refine blk_drewN ?_ _ | refine blk_drew ?_ | refine blk_alloc ?_ _)); exact BK102.out) Try.underlying45 rfl (by kernel_rfl)) rfl ?_
  exact ⟨_, _, a27_, a10_, a10_, a6_, a5_⟩
end
section
attribute [local go_sem] max2_int min2_int max_two min_two max_three min_three max_four min_four

end
section
attribute [local go_sem] max2_int min2_int max_two min_two max_three min_three max_four min_four

end
abbrev C9 : Type := Int × ByteArray × Int × Int × Bool × List Part × List Part × Bool × Bool
def zeroC : C9 := (0, ⟨#[]⟩, 0, 0, false, [], [], false, false)
def tupC (c : Client) : C9 := (c.f0, c.f1, c.f2, c.f3, c.f4, c.f5, c.f6, c.f7, true)
def goodC (c : Client) : C9 := if clientB c = true then tupC c else zeroC
theorem opB_sized {l : List Part} (h : opB l = true) : sizedP l = true := sizedP_mk (fun p hp => by
 have := partB_cases ((opB_of h).2.1 p hp); unfold maxLen; omega)
theorem goodClient_val (c : Client) (h1 : c.f1.size ≤ maxLen) (h5 : sizedP c.f5 = true) (h6 : sizedP c.f6 = true) : impl_goodClient.f c.f0 c.f1 c.f2 c.f3 c.f4 c.f5 c.f6 c.f7 = some (goodC c) := by
 unfold impl_goodClient.f goodC
 rw [impl_isClient_ev c h1 h5 h6, Option.bind_some]
 cases clientB c <;> rfl
theorem copied_val {c : Client} (h : clientB c = true) : impl_Client_copied.f c.f0 c.f1 c.f2 c.f3 c.f4 c.f5 c.f6 c.f7 = some (c.f0, c.f1, c.f2, c.f3, c.f4, c.f5, c.f6, c.f7) := by
 have hc := clientB_of h
 unfold impl_Client_copied.f
 rw [clone_val c.f5 (opB_of hc.2.2.2.2.2.2.2.1).1, Option.bind_some, clone_val c.f6 (opB_of hc.2.2.2.2.2.2.2.2).1, Option.bind_some]
section
attribute [local go_sem] max2_int min2_int max_two min_two max_three min_three max_four min_four
def laws_szPart.f (a0_0 : Int) (a0_1 : ByteArray) (a0_2 : ByteArray) (a1 : Int) : Option (Int) := if (wrap64 (a1 - (a0_1.size : Int))) < 0 then (some (-1)) else (if (wrap64 ((wrap64 (a1 - (a0_1.size : Int))) - (a0_2.size : Int))) < 0 then (some (-1)) else (some (wrap64 ((wrap64 (a1 - (a0_1.size : Int))) - (a0_2.size : Int)))))
set_option maxHeartbeats 8000000 in
set_option maxRecDepth 100000 in
theorem laws_szPart.calls (a0_0 : Int) (a0_1 : ByteArray) (a0_2 : ByteArray) (a1 : Int) (r : Int) (w : World) (h : laws_szPart.f a0_0 a0_1 a0_2 a1 = some r) :
  Calls Try.prog 42 #[.agg #[.int .i64 a0_0, .string a0_1, .string a0_2], .int .i64 a1] w fun e w' => e = .returned (.int .i64 r) ∧ Below w.heap.size w w' := by
 have hu78 := Try.underlying78
 have HB := mz (Below.refl w.heap.size w)
 have H : (if (wrap64 (a1 - (a0_1.size : Int))) < 0 then (some (-1)) else (if (wrap64 ((wrap64 (a1 - (a0_1.size : Int))) - (a0_2.size : Int))) < 0 then (some (-1)) else (some (wrap64 ((wrap64 (a1 - (a0_1.size : Int))) - (a0_2.size : Int)))))) = some r := h
 clear h
 by_cases c3 : (wrap64 (a1 - (a0_1.size : Int))) < 0
 ·rw [if_pos c3] at H
  have c3b0 : decide ((wrap64 (a1 - (a0_1.size : Int))) < 0) = true := decide_eq_true c3
  clear c3
  obtain rfl := Option.some.inj H
  go_enter Try.func42, Try.ntmps42
  go_wp2_with (first | ((with_reducible refine gate_dst (N := 2) rfl ?_); refine bz_ 2 #[.int .i64 a0_0, .string a0_1, .string a0_2] 78 ?_; intro gb101 hg w4 hbox hb; have n0_ := mz (bs0_ hb); have n1_ := mz (hbox); have n2_ := mz ((by rw [hg]; exact bz1_ : w.heap.size ≤ gb101)); have n3_ := mz ((by rw [hg]; exact bz1_ : w.heap.size ≤ gb101)); clear HB; have HB := n0_; have BK101 := n1_; have GW101 := n2_; have GE101 := n3_; clear n0_ n1_ n2_ n3_; clear hb hbox hg; have hcz5_0 := bk_ BK101.out 0 (.int .i64 a0_0); have hcz5_1 := bk_ BK101.out 1 (.string a0_1); have hcz5_2 := bk_ BK101.out 2 (.string a0_2); have hfz5_0 := blk_frozen BK101.out 0; have hfz5_1 := blk_frozen BK101.out 1; have hfz5_2 := blk_frozen BK101.out 2))
  go_ret
  exact ⟨a27_, a8_⟩
 ·rw [if_neg c3] at H
  have c3b0 : decide ((wrap64 (a1 - (a0_1.size : Int))) < 0) = false := decide_eq_false c3
  clear c3
  by_cases c6 : (wrap64 ((wrap64 (a1 - (a0_1.size : Int))) - (a0_2.size : Int))) < 0
  ·rw [if_pos c6] at H
   have c6b0 : decide ((wrap64 ((wrap64 (a1 - (a0_1.size : Int))) - (a0_2.size : Int))) < 0) = true := decide_eq_true c6
   clear c6
   obtain rfl := Option.some.inj H
   go_enter Try.func42, Try.ntmps42
   go_wp2_with (first | ((with_reducible refine gate_dst (N := 2) rfl ?_); refine bz_ 2 #[.int .i64 a0_0, .string a0_1, .string a0_2] 78 ?_; intro gb101 hg w7 hbox hb; have n0_ := mz (bs0_ hb); have n1_ := mz (hbox); have n2_ := mz ((by rw [hg]; exact bz1_ : w.heap.size ≤ gb101)); have n3_ := mz ((by rw [hg]; exact bz1_ : w.heap.size ≤ gb101)); clear HB; have HB := n0_; have BK101 := n1_; have GW101 := n2_; have GE101 := n3_; clear n0_ n1_ n2_ n3_; clear hb hbox hg; have hcz8_0 := bk_ BK101.out 0 (.int .i64 a0_0); have hcz8_1 := bk_ BK101.out 1 (.string a0_1); have hcz8_2 := bk_ BK101.out 2 (.string a0_2); have hfz8_0 := blk_frozen BK101.out 0; have hfz8_1 := blk_frozen BK101.out 1; have hfz8_2 := blk_frozen BK101.out 2))
   go_ret
   exact ⟨a27_, a8_⟩
  ·rw [if_neg c6] at H
   have c6b0 : decide ((wrap64 ((wrap64 (a1 - (a0_1.size : Int))) - (a0_2.size : Int))) < 0) = false := decide_eq_false c6
   clear c6
   obtain rfl := Option.some.inj H
   go_enter Try.func42, Try.ntmps42
   go_wp2_with (first | ((with_reducible refine gate_dst (N := 2) rfl ?_); refine bz_ 2 #[.int .i64 a0_0, .string a0_1, .string a0_2] 78 ?_; intro gb101 hg w9 hbox hb; have n0_ := mz (bs0_ hb); have n1_ := mz (hbox); have n2_ := mz ((by rw [hg]; exact bz1_ : w.heap.size ≤ gb101)); have n3_ := mz ((by rw [hg]; exact bz1_ : w.heap.size ≤ gb101)); clear HB; have HB := n0_; have BK101 := n1_; have GW101 := n2_; have GE101 := n3_; clear n0_ n1_ n2_ n3_; clear hb hbox hg; have hcz10_0 := bk_ BK101.out 0 (.int .i64 a0_0); have hcz10_1 := bk_ BK101.out 1 (.string a0_1); have hcz10_2 := bk_ BK101.out 2 (.string a0_2); have hfz10_0 := blk_frozen BK101.out 0; have hfz10_1 := blk_frozen BK101.out 1; have hfz10_2 := blk_frozen BK101.out 2))
   go_ret
   exact ⟨a27_, a8_⟩
end
section
attribute [local go_sem] max2_int min2_int max_two min_two max_three min_three max_four min_four
def laws_szPartS.l0 : Nat → List (S78) → Int → Int → Option (Int)
 | 0, _, _, _ => none
 | k + 1, x0, x1, x5 => if x5 < (x0.length : Int) then (if 0 ≤ x5 then ((laws_szPart.f ((rd_T78 x0 x5).f0) ((rd_T78 x0 x5).f1) ((rd_T78 x0 x5).f2) x1).bind fun t102 => (if t102 < 0 then (some (-1)) else (laws_szPartS.l0 k x0 t102 (wrap64 (x5 + 1))))) else (none)) else (some x1)
def laws_szPartS.f (k : Nat) (l0 : List (S78)) (a1 : Int) : Option (Int) := if (wrap64 (a1 - (l0.length : Int))) < 0 then (some (-1)) else (laws_szPartS.l0 k l0 (wrap64 (a1 - (l0.length : Int))) 0)
set_option maxHeartbeats 8000000 in
set_option maxRecDepth 100000 in
theorem laws_szPartS.calls (k : Nat) (A0 : Option Addr) (c0 : Nat) (l0 : List (S78)) (a1 : Int) (r : Int) (w : World) (hr0 : Kd.C k78 w A0 l0.length l0) (hc0 : l0.length ≤ c0) (h : laws_szPartS.f k l0 a1 = some r) :
  Calls Try.prog 9 #[.slice A0 l0.length c0, .int .i64 a1] w fun e w' => e = .returned (.int .i64 r) ∧ Below w.heap.size w w' := by
 have hu78 := Try.underlying78
 have HR0 := mz hr0
 have HC0 := mz hc0
 clear hr0 hc0
 have HB := mz (Below.refl w.heap.size w)
 have H : (if (wrap64 (a1 - (l0.length : Int))) < 0 then (some (-1)) else (laws_szPartS.l0 k l0 (wrap64 (a1 - (l0.length : Int))) 0)) = some r := h
 clear h
 by_cases c3 : (wrap64 (a1 - (l0.length : Int))) < 0
 ·rw [if_pos c3] at H
  have c3b0 : decide ((wrap64 (a1 - (l0.length : Int))) < 0) = true := decide_eq_true c3
  clear c3
  obtain rfl := Option.some.inj H
  go_enter Try.func9, Try.ntmps9
  go_wp2
  go_ret
  exact ⟨a27_, a12_⟩
 ·rw [if_neg c3] at H
  have c3b0 : decide ((wrap64 (a1 - (l0.length : Int))) < 0) = false := decide_eq_false c3
  clear c3
  have H' := mz H
  clear H
  go_enter Try.func9, Try.ntmps9
  go_wp2
  go_loopg [1, 5] k (fun kq v1 v5 w' => ∃ (x1_1 : Int) (x5_1 : Int), v1 = .int .i64 x1_1 ∧ v5 = .int .i64 x5_1 ∧ Aside0 (laws_szPartS.l0 kq l0 x1_1 x5_1 = some r) ∧ Aside0 (kq ≤ k) ∧ Aside0 (Below w.heap.size w w'))
  case atStart => exact ⟨(wrap64 (a1 - (l0.length : Int))), (0), a30_, a30_, H', ⟨Nat.le_refl _⟩, ⟨by repeat (first | (with_reducible first | exact HB.out | apply below_alloc | apply pw_below_drewN | apply below_drew1) | exact HB.out)⟩⟩
  case round =>
   clear H'
   try clear p2
   try clear c3
   try clear c3b0
   obtain ⟨x1_1, x5_1, rfl, rfl, HA, HK1, HB⟩ := hrel
   cases gk with
   | zero => exact absurd HA.out (by simp [laws_szPartS.l0])
   | succ k1 =>
    have H := HA.out
    clear HA
    simp only [laws_szPartS.l0] at H
    by_cases c4 : x5_1 < (l0.length : Int)
    ·rw [if_pos c4] at H
     have c4b0 : decide (x5_1 < (l0.length : Int)) = true := decide_eq_true c4
     clear c4
     by_cases c5 : 0 ≤ x5_1
     ·rw [if_pos c5] at H
      have c5b0 : decide (0 ≤ x5_1) = true := decide_eq_true c5
      clear c5
      replace H := be0_ H
      obtain ⟨t102, A60, H⟩ := H
      replace H : (if t102 < 0 then (some (-1)) else (laws_szPartS.l0 k1 l0 t102 (wrap64 (x5_1 + 1)))) = some r := H
      have A6 := mz A60
      clear A60
      by_cases c7 : t102 < 0
      ·rw [if_pos c7] at H
       have c7b0 : decide (t102 < 0) = true := decide_eq_true c7
       clear c7
       obtain rfl := Option.some.inj H
       have p101 : 0 ≤ (x5_1 : Int) := of_decide_eq_true a29_
       have q101 : x5_1 < (l0.length : Int) := of_decide_eq_true a29_
       obtain ⟨ad101, e101, hx101_0, hx101_1, hx101_2⟩ := at_T78 HR0.out x5_1 p101 q101
       cases e101
       replace hx101_0 := bc_ HB.out hx101_0
       replace hx101_1 := bc_ HB.out hx101_1
       replace hx101_2 := bc_ HB.out hx101_2
       replace p101 := eq_true p101
       replace q101 := eq_true q101
       go_wp2_with (first | ((with_reducible refine gate_callee (f := 42) rfl ?_); refine goesL_ (some 23) rfl rfl Try.func42 (by kernel_rfl) rfl #[.agg #[.int .i64 ((rd_T78 l0 x5_1).f0), .string ((rd_T78 l0 x5_1).f1), .string ((rd_T78 l0 x5_1).f2)], .int .i64 x1_1] rfl a11_ ?_; (with_reducible refine (laws_szPart.calls ((rd_T78 l0 x5_1).f0) ((rd_T78 l0 x5_1).f1) ((rd_T78 l0 x5_1).f2) x1_1 t102 _ A6.out).mono ?_); rintro e w8 ⟨rfl, hb⟩; refine ⟨_, rfl, ?_⟩; have n0_ := mz (bs0_ hb); clear HB; have HB := n0_; clear n0_; (try clear hb); (try clear hb2); (try clear hk); (try clear hi)))
       go_ret
       exact ⟨a27_, a12_⟩
      ·rw [if_neg c7] at H
       have c7b0 : decide (t102 < 0) = false := decide_eq_false c7
       clear c7
       have H' := mz H
       clear H
       have p101 : 0 ≤ (x5_1 : Int) := of_decide_eq_true a29_
       have q101 : x5_1 < (l0.length : Int) := of_decide_eq_true a29_
       obtain ⟨ad101, e101, hx101_0, hx101_1, hx101_2⟩ := at_T78 HR0.out x5_1 p101 q101
       cases e101
       replace hx101_0 := bc_ HB.out hx101_0
       replace hx101_1 := bc_ HB.out hx101_1
       replace hx101_2 := bc_ HB.out hx101_2
       replace p101 := eq_true p101
       replace q101 := eq_true q101
       go_wp2_with (first | ((with_reducible refine gate_callee (f := 42) rfl ?_); refine goesL_ (some 23) rfl rfl Try.func42 (by kernel_rfl) rfl #[.agg #[.int .i64 ((rd_T78 l0 x5_1).f0), .string ((rd_T78 l0 x5_1).f1), .string ((rd_T78 l0 x5_1).f2)], .int .i64 x1_1] rfl a11_ ?_; (with_reducible refine (laws_szPart.calls ((rd_T78 l0 x5_1).f0) ((rd_T78 l0 x5_1).f1) ((rd_T78 l0 x5_1).f2) x1_1 t102 _ A6.out).mono ?_); rintro e w9 ⟨rfl, hb⟩; refine ⟨_, rfl, ?_⟩; have n0_ := mz (bs0_ hb); clear HB; have HB := n0_; clear n0_; (try clear hb); (try clear hb2); (try clear hk); (try clear hi)))
       go_roundg k1
       case measure => have := HK1.out; omega
       case rel => exact ⟨(t102), (wrap64 (x5_1 + 1)), a30_, a30_, H', ⟨by have := HK1.out; omega⟩, ⟨by repeat (first | (with_reducible first | exact HB.out | apply below_alloc | apply pw_below_drewN | apply below_drew1) | exact HB.out)⟩⟩
     ·rw [if_neg c5] at H
      exact absurd H (by simp)
    ·rw [if_neg c4] at H
     have c4b0 : decide (x5_1 < (l0.length : Int)) = false := decide_eq_false c4
     clear c4
     obtain rfl := Option.some.inj H
     go_wp2
     go_ret
     exact ⟨a27_, a12_⟩
end
section
attribute [local go_sem] max2_int min2_int max_two min_two max_three min_three max_four min_four
def laws_toPart.f (a0_0 : Int) (a0_1 : ByteArray) (a0_2 : ByteArray) : Option (Int × ByteArray × ByteArray) := some (a0_0, a0_1, a0_2)
set_option maxHeartbeats 8000000 in
set_option maxRecDepth 100000 in
theorem laws_toPart.calls (a0_0 : Int) (a0_1 : ByteArray) (a0_2 : ByteArray) (r1 : Int) (r2 : ByteArray) (r3 : ByteArray) (w : World) (h : laws_toPart.f a0_0 a0_1 a0_2 = some (r1, r2, r3)) :
  Calls Try.prog 49 #[.agg #[.int .i64 a0_0, .string a0_1, .string a0_2]] w fun e w' => e = .returned (.agg #[.int .i64 r1, .string r2, .string r3]) ∧ Below w.heap.size w w' := by
 have hu78 := Try.underlying78
 have hu86 := Try.underlying86
 have HB := mz (Below.refl w.heap.size w)
 have H : (some (a0_0, a0_1, a0_2)) = some (r1, r2, r3) := h
 clear h
 simp only [Option.some.injEq, Prod.mk.injEq] at H
 obtain ⟨rfl, rfl, rfl⟩ := H
 go_enter Try.func49, Try.ntmps49
 go_wp2_with (first | ((with_reducible refine gate_dst (N := 1) rfl ?_); refine bz_ 1 #[.int .i64 a0_0, .string a0_1, .string a0_2] 78 ?_; intro gb101 hg w2 hbox hb; have n0_ := mz (bs0_ hb); have n1_ := mz (hbox); have n2_ := mz ((by rw [hg]; exact bz1_ : w.heap.size ≤ gb101)); have n3_ := mz ((by rw [hg]; exact bz1_ : w.heap.size ≤ gb101)); clear HB; have HB := n0_; have BK101 := n1_; have GW101 := n2_; have GE101 := n3_; clear n0_ n1_ n2_ n3_; clear hb hbox hg) | ((with_reducible refine gate_dst (N := 2) rfl ?_); refine bz_ 2 #[.int .i64 0, .string (⟨#[]⟩ : ByteArray), .string (⟨#[]⟩ : ByteArray)] 86 ?_; intro gb102 hg w3 hbox hb; have n0_ := mz (blk_below (g := gb101) (o := .cells #[.int .i64 a0_0, .string a0_1, .string a0_2] 78 (0, 0)) a14_ hb); have n1_ := mz (bs2_ hb); have n2_ := mz (hbox); have n3_ := mz ((by rw [hg]; exact bz5_ : w.heap.size ≤ gb102)); have n4_ := mz ((by rw [hg]; exact bz5_ : w.heap.size ≤ gb102)); have n5_ := mz ((by rw [hg]; exact Nat.ne_of_lt (blk_lt (g := gb101) (o := .cells #[.int .i64 a0_0, .string a0_1, .string a0_2] 78 (0, 0)) a14_) : gb101 ≠ gb102)); have n6_ := mz ((by rw [hg]; exact Nat.ne_of_gt (blk_lt (g := gb101) (o := .cells #[.int .i64 a0_0, .string a0_1, .string a0_2] 78 (0, 0)) a14_) : gb102 ≠ gb101)); clear BK101; clear HB; have BK101 := n0_; have HB := n1_; have BK102 := n2_; have GW102 := n3_; have GE102 := n4_; have NB101_102 := n5_; have NB102_101 := n6_; clear n0_ n1_ n2_ n3_ n4_ n5_ n6_; clear hb hbox hg) | ((with_reducible refine gate_dst (N := 3) rfl ?_); refine bz_ 3 #[.int .i64 0, .string (⟨#[]⟩ : ByteArray), .string (⟨#[]⟩ : ByteArray)] 86 ?_; intro gb103 hg w4 hbox hb; have n0_ := mz (blk_below (g := gb101) (o := .cells #[.int .i64 a0_0, .string a0_1, .string a0_2] 78 (0, 0)) a14_ hb); have n1_ := mz (blk_below (g := gb102) (o := .cells #[.int .i64 0, .string (⟨#[]⟩ : ByteArray), .string (⟨#[]⟩ : ByteArray)] 86 (0, 0)) a15_ hb); have n2_ := mz (bs4_ hb); have n3_ := mz (hbox); have n4_ := mz ((by rw [hg]; exact bz6_ : w.heap.size ≤ gb103)); have n5_ := mz ((by rw [hg]; exact bz6_ : w.heap.size ≤ gb103)); have n6_ := mz ((by rw [hg]; exact Nat.ne_of_lt (blk_lt (g := gb101) (o := .cells #[.int .i64 a0_0, .string a0_1, .string a0_2] 78 (0, 0)) a14_) : gb101 ≠ gb103)); have n7_ := mz ((by rw [hg]; exact Nat.ne_of_gt (blk_lt (g := gb101) (o := .cells #[.int .i64 a0_0, .string a0_1, .string a0_2] 78 (0, 0)) a14_) : gb103 ≠ gb101)); have n8_ := mz ((by rw [hg]; exact Nat.ne_of_lt (blk_lt (g := gb102) (o := .cells #[.int .i64 0, .string (⟨#[]⟩ : ByteArray), .string (⟨#[]⟩ : ByteArray)] 86 (0, 0)) a15_) : gb102 ≠ gb103)); have n9_ := mz ((by rw [hg]; exact Nat.ne_of_gt (blk_lt (g := gb102) (o := .cells #[.int .i64 0, .string (⟨#[]⟩ : ByteArray), .string (⟨#[]⟩ : ByteArray)] 86 (0, 0)) a15_) : gb103 ≠ gb102)); clear BK101; clear BK102; clear HB; have BK101 := n0_; have BK102 := n1_; have HB := n2_; have BK103 := n3_; have GW103 := n4_; have GE103 := n5_; have NB101_103 := n6_; have NB103_101 := n7_; have NB102_103 := n8_; have NB103_102 := n9_; clear n0_ n1_ n2_ n3_ n4_ n5_ n6_ n7_ n8_ n9_; clear hb hbox hg; have hnb5 := NB101_102.out; have hnc5 := NB102_101.out; have hnb6 := NB101_103.out; have hnc6 := NB103_101.out; have hcz7_0 := bk_ BK101.out 0 (.int .i64 a0_0); have hcz7_1 := bk_ BK101.out 1 (.string a0_1); have hcz7_2 := bk_ BK101.out 2 (.string a0_2); have hfz7_0 := blk_frozen BK101.out 0; have hfz7_1 := blk_frozen BK101.out 1; have hfz7_2 := blk_frozen BK101.out 2; have hnb8 := NB103_102.out; have hnc8 := NB102_103.out; have hcz9_0 := bk_ BK103.out 0 (.int .i64 0); have hcz9_1 := bk_ BK103.out 1 (.string (⟨#[]⟩ : ByteArray)); have hcz9_2 := bk_ BK103.out 2 (.string (⟨#[]⟩ : ByteArray)); have hfz9_0 := blk_frozen BK103.out 0; have hfz9_1 := blk_frozen BK103.out 1; have hfz9_2 := blk_frozen BK103.out 2; have hcz10_0 := bk_ BK102.out 0 (.int .i64 0); have hcz10_1 := bk_ BK102.out 1 (.string (⟨#[]⟩ : ByteArray)); have hcz10_2 := bk_ BK102.out 2 (.string (⟨#[]⟩ : ByteArray)); have hfz10_0 := blk_frozen BK102.out 0; have hfz10_1 := blk_frozen BK102.out 1; have hfz10_2 := blk_frozen BK102.out 2))
 refine bodyPost_ret (results_cell_row rfl _ _ gb102 86 #[.int .i64 a0_0, .string a0_1, .string a0_2] (0, 0) _ rfl (by (with_reducible repeat (first | refine blk_drewN ?_ _ | refine blk_drew ?_ | refine blk_alloc ?_ _)); refine blk_put (cs := #[.int .i64 a0_0, .string a0_1, .string (⟨#[]⟩ : ByteArray)]) ?_ 2 _ rfl; (with_reducible repeat (first | refine blk_drewN ?_ _ | refine blk_drew ?_ | refine blk_alloc ?_ _)); refine blk_put (cs := #[.int .i64 a0_0, .string (⟨#[]⟩ : ByteArray), .string (⟨#[]⟩ : ByteArray)]) ?_ 1 _ rfl; (with_reducible repeat (first | refine blk_drewN ?_ _ | refine blk_drew ?_ | refine blk_alloc ?_ _)); refine blk_put (cs := #[.int .i64 0, .string (⟨#[]⟩ : ByteArray), .string (⟨#[]⟩ : ByteArray)]) ?_ 0 _ rfl; (with_reducible repeat (first | refine blk_drewN ?_ _ | refine blk_drew ?_ | refine blk_alloc ?_ _)); refine blk_far ?_ NB102_103.out _; (with_reducible repeat (first | refine blk_drewN ?_ _ | refine blk_drew ?_ | refine blk_alloc ?_ _)); refine blk_far ?_ NB102_103.out _; (with_reducible repeat (first | refine blk_drewN ?_ _ | refine blk_drew ?_ | refine blk_alloc ?_ _)); refine blk_far ?_ NB102_103.out _; (with_reducible repeat (first | refine blk_drewN ?_ _ | refine blk_drew ?_ | refine blk_alloc ?_ _)); exact BK102.out) Try.underlying86 rfl (by kernel_rfl)) rfl ?_
 exact ⟨a27_, a3_⟩
end
section
attribute [local go_sem] max2_int min2_int max_two min_two max_three min_three max_four min_four
def laws_toPartS.l0 : Nat → List (S78) → List (S86) → Int → Option ((List (S86)))
 | 0, _, _, _ => none
 | k + 1, x0, x3, x4 => if x4 < (x0.length : Int) then (if 0 ≤ x4 then ((laws_toPart.f ((rd_T78 x0 x4).f0) ((rd_T78 x0 x4).f1) ((rd_T78 x0 x4).f2)).bind fun bt105 => (if x4 < (x3.length : Int) then (laws_toPartS.l0 k x0 (x3.set (x4 : Int).toNat (⟨bt105.1, bt105.2.1, bt105.2.2⟩ : S86)) (wrap64 (x4 + 1))) else (none))) else (none)) else (some x3)
def laws_toPartS.f (k : Nat) (l0 : List (S78)) : Option ((List (S86))) := if 0 ≤ (l0.length : Int) then (if ((l0.length : Int) : Int).toNat ≤ 7036874417766 then (laws_toPartS.l0 k l0 (List.replicate ((l0.length : Int) : Int).toNat z86) 0) else (none)) else (none)
set_option maxHeartbeats 8000000 in
set_option maxRecDepth 100000 in
theorem laws_toPartS.calls (k : Nat) (A0 : Option Addr) (c0 : Nat) (l0 : List (S78)) (r : List (S86)) (w : World) (hr0 : Kd.C k78 w A0 l0.length l0) (hc0 : l0.length ≤ c0) (h : laws_toPartS.f k l0 = some r) :
  Calls Try.prog 12 #[.slice A0 l0.length c0] w fun e w' => ∃ v0_ : Value, e = .returned (v0_) ∧ Kd.R k86 86 w' w.heap.size (fun _ => True) v0_ r ∧ Below w.heap.size w w' := by
 have hu78 := Try.underlying78
 have hu86 := Try.underlying86
 have HR0 := mz hr0
 have HC0 := mz hc0
 clear hr0 hc0
 have HB := mz (Below.refl w.heap.size w)
 have H : (if 0 ≤ (l0.length : Int) then (if ((l0.length : Int) : Int).toNat ≤ 7036874417766 then (laws_toPartS.l0 k l0 (List.replicate ((l0.length : Int) : Int).toNat z86) 0) else (none)) else (none)) = some r := h
 clear h
 by_cases c2 : 0 ≤ (l0.length : Int)
 ·rw [if_pos c2] at H
  have c2b0 := eq_true c2
  have c2b1 : decide (0 ≤ (l0.length : Int)) = true := decide_eq_true c2
  clear c2
  by_cases c3 : ((l0.length : Int) : Int).toNat ≤ 7036874417766
  ·rw [if_pos c3] at H
   have c3b0 := eq_true c3
   have c3b1 : decide (((l0.length : Int) : Int).toNat ≤ 7036874417766) = true := decide_eq_true c3
   clear c3
   obtain ⟨y101, hy101⟩ : ∃ y_ : List (S86), y_ = (List.replicate ((l0.length : Int) : Int).toNat z86) := ⟨_, rfl⟩
   replace H : (laws_toPartS.l0 k l0 y101 0) = some r := by first | (rw [hy101]; with_reducible exact H) | (have H2_ := (Option.bind_some _ _).symm.trans H; rw [hy101]; with_reducible exact H2_) | (have H2_ := (Option.bind_some _ _).symm.trans H; with_reducible exact H2_) | with_reducible exact H | (rw [hy101]; exact H) | exact H
   have Ny101 := mz hy101
   clear hy101
   have H' := mz H
   clear H
   go_enter Try.func12, Try.ntmps12
   go_wp2_with (first | ((with_reducible refine gate_dst (N := 7) rfl ?_); refine Kd.R_make k86 _ 86 rfl (N := 7) rfl 34 _ _ rfl (l0.length : Int) rfl rfl Try.underlying34 (.agg #[(.int .i64 0), (.string ⟨#[]⟩), (.string ⟨#[]⟩)]) 40 info86 rfl (by decide) (by omega) z86 (ok := fun _ => True) (okp := fun _ => True) (k86_mkM _ _ _ z86 ) (fun _ hk => hk) trivial (of_decide_eq_true a29_) (Nat.le_trans (Nat.mul_le_mul_right _ (of_decide_eq_true a29_ : (l0.length : Int).toNat ≤ 7036874417766)) (by omega)) (Below.refl _ _) (Nat.le_refl _) ?_; intro v102 w4 ho5 hb hg_ hnew_; clear hg_ hnew_; (first | rw [← Ny101.out] at ho5 | (simp only [Int.reduceToNat] at ho5; rw [← Ny101.out] at ho5)); have n0_ := mz (Kd.R_lower ho5 bz1_); have n1_ := mz (bs0_ hb); clear HB; have HO103 := n0_; have HB := n1_; clear n0_ n1_; clear hb ho5))
   go_loopg [4] k (fun kq v4 w' => ∃ (x3_1 : List (S86)) (x4_1 : Int), v4 = .int .i64 x4_1 ∧ Aside0 (laws_toPartS.l0 kq l0 x3_1 x4_1 = some r) ∧ Aside0 (kq ≤ k) ∧ Aside0 (Kd.R k86 86 w' w.heap.size (fun _ => True) v102 x3_1) ∧ Aside0 (Below w.heap.size w w'))
   case atStart => exact ⟨(y101), (0), a30_, H', ⟨Nat.le_refl _⟩, ⟨by (with_reducible repeat (first | apply Kd.R_alloc | apply Kd.R_drewN | apply Kd.R_drew)); exact HO103.out⟩, ⟨by repeat (first | (with_reducible first | exact HB.out | apply below_alloc | apply pw_below_drewN | apply below_drew1) | exact HB.out)⟩⟩
   case round =>
    clear H'
    try clear c1
    try clear c2
    try clear c2b0
    try clear c2b1
    try clear p2
    try clear c3
    try clear c3b0
    try clear c3b1
    obtain ⟨x3_1, x4_1, rfl, HA, HK1, HO_3, HB⟩ := hrel
    cases gk with
    | zero => exact absurd HA.out (by simp [laws_toPartS.l0])
    | succ k1 =>
     have H := HA.out
     clear HA
     simp only [laws_toPartS.l0] at H
     by_cases c6 : x4_1 < (l0.length : Int)
     ·rw [if_pos c6] at H
      have c6b0 : decide (x4_1 < (l0.length : Int)) = true := decide_eq_true c6
      clear c6
      by_cases c7 : 0 ≤ x4_1
      ·rw [if_pos c7] at H
       have c7b0 : decide (0 ≤ x4_1) = true := decide_eq_true c7
       clear c7
       replace H := be0_ H
       obtain ⟨⟨t105, t106, t107⟩, A80, H⟩ := H
       replace H : (if x4_1 < (x3_1.length : Int) then (laws_toPartS.l0 k1 l0 (x3_1.set (x4_1 : Int).toNat (⟨t105, t106, t107⟩ : S86)) (wrap64 (x4_1 + 1))) else (none)) = some r := H
       have A8 := mz A80
       clear A80
       by_cases c9 : x4_1 < (x3_1.length : Int)
       ·rw [if_pos c9] at H
        have c9b0 : decide (x4_1 < (x3_1.length : Int)) = true := decide_eq_true c9
        clear c9
        obtain ⟨y108, hy108⟩ : ∃ y_ : List (S86), y_ = (x3_1.set (x4_1 : Int).toNat (⟨t105, t106, t107⟩ : S86)) := ⟨_, rfl⟩
        replace H : (laws_toPartS.l0 k1 l0 y108 (wrap64 (x4_1 + 1))) = some r := by first | (rw [hy108]; with_reducible exact H) | (have H2_ := (Option.bind_some _ _).symm.trans H; rw [hy108]; with_reducible exact H2_) | (have H2_ := (Option.bind_some _ _).symm.trans H; with_reducible exact H2_) | with_reducible exact H | (rw [hy108]; exact H) | exact H
        have Ny108 := mz hy108
        clear hy108
        have H' := mz H
        clear H
        have p104 : 0 ≤ (x4_1 : Int) := of_decide_eq_true a29_
        have q104 : x4_1 < (l0.length : Int) := of_decide_eq_true a29_
        obtain ⟨ad104, e104, hx104_0, hx104_1, hx104_2⟩ := at_T78 HR0.out x4_1 p104 q104
        cases e104
        replace hx104_0 := bc_ HB.out hx104_0
        replace hx104_1 := bc_ HB.out hx104_1
        replace hx104_2 := bc_ HB.out hx104_2
        replace p104 := eq_true p104
        replace q104 := eq_true q104
        go_wp2_with (first | ((with_reducible refine gate_callee (f := 49) rfl ?_); refine goesL_ (some 20) rfl rfl Try.func49 (by kernel_rfl) rfl #[.agg #[.int .i64 ((rd_T78 l0 x4_1).f0), .string ((rd_T78 l0 x4_1).f1), .string ((rd_T78 l0 x4_1).f2)]] rfl a11_ ?_; (with_reducible refine (laws_toPart.calls ((rd_T78 l0 x4_1).f0) ((rd_T78 l0 x4_1).f1) ((rd_T78 l0 x4_1).f2) t105 t106 t107 _ A8.out).mono ?_); rintro e w11 ⟨rfl, hb⟩; refine ⟨_, rfl, ?_⟩; have n0_ := mz (Kd.R_below a24_ hb); have n1_ := mz (bs0_ hb); clear HO_3; clear HB; have HO_3 := n0_; have HB := n1_; clear n0_ n1_; (try clear hb); (try clear hb2); (try clear hk); (try clear hi); have p10 : 0 ≤ (x4_1 : Int) := of_decide_eq_true a29_; have q10 : (x4_1 : Int) < ((x3_1.length : Int) : Int) := of_decide_eq_true a29_; obtain ⟨go10, co10, eo10, gb10, gl10, cl10, HG10⟩ := Kd.R_form HO_3.out (by omega); (first | cases eo10 | (injection eo10 with ea_ en_ ec_; (first | subst ea_ | (injection ea_ with ea_; subst ea_)); subst ec_; clear en_)); have GB10 := mz gb10; have GG10 := mz HG10; clear gb10 gl10 HG10; obtain ⟨ce10, hcl10, hM10, hcc10, hfr10⟩ := Kd.R_elem HO_3.out z86 (x4_1 : Int) p10 q10; obtain rfl := k86_openM hM10; have hx10_0 : w11.cell? ⟨go10, (x4_1 : Int).toNat * 3, none⟩ = some (.int .i64 ((rd_T86 x3_1 x4_1).f0)) := hcc10 0 _ rfl; have hx10_1 : w11.cell? ⟨go10, (x4_1 : Int).toNat * 3 + 1, none⟩ = some (.string ((rd_T86 x3_1 x4_1).f1)) := hcc10 1 _ rfl; have hx10_2 : w11.cell? ⟨go10, (x4_1 : Int).toNat * 3 + 2, none⟩ = some (.string ((rd_T86 x3_1 x4_1).f2)) := hcc10 2 _ rfl; have hf10_0 : w11.frozen? ⟨go10, (x4_1 : Int).toNat * 3, none⟩ = false := hfr10 0; have hf10_1 : w11.frozen? ⟨go10, (x4_1 : Int).toNat * 3 + 1, none⟩ = false := hfr10 1; have hf10_2 : w11.frozen? ⟨go10, (x4_1 : Int).toNat * 3 + 2, none⟩ = false := hfr10 2; clear hcl10 hcc10 hfr10 hM10; replace p10 := eq_true p10; replace q10 := eq_true q10; have HX12 := mz (show Kd.R k86 86 w11 w.heap.size (fun _ => True) (.slice (some ⟨go10, 0, none⟩) x3_1.length co10) x3_1 from a24_); obtain ⟨ce12, hcl12, hM12, hcc12, hfr12⟩ := Kd.R_elem HX12.out z86 (x4_1 : Int) (of_decide_eq_true a29_) (by have h_ : (x4_1 : Int) < ((x3_1.length : Int) : Int) := of_decide_eq_true a29_; first | exact h_ | (have e_ := (Kd.R_reads' HO_3.out).1; omega) | simpa using h_); obtain rfl := k86_openM hM12; have HP12 := Kd.R_seg HX12.out (x4_1 : Int) (of_decide_eq_true a29_) (by have h_ : (x4_1 : Int) < ((x3_1.length : Int) : Int) := of_decide_eq_true a29_; first | exact h_ | (have e_ := (Kd.R_reads' HO_3.out).1; omega) | simpa using h_) (seg := [.int .i64 t105, .string t106, .string t107]) (j := 0) hcl12 hcc12 (show 3 ≤ 3 from by decide) (x' := (⟨t105, t106, t107⟩ : S86)) (k86_mkM _ _ _ (⟨t105, t106, t107⟩ : S86) ) (fun _ hk => hk); have hx12_0 := hcc12 0 _ rfl; (try simp only [show (k86).sz = 3 from rfl, Nat.mul_one, Nat.add_zero] at hx12_0); have hf12_0 := hfr12 0; (try simp only [show (k86).sz = 3 from rfl, Nat.mul_one, Nat.add_zero] at hf12_0); have hx12_1 := hcc12 1 _ rfl; (try simp only [show (k86).sz = 3 from rfl, Nat.mul_one, Nat.add_zero] at hx12_1); have hf12_1 := hfr12 1; (try simp only [show (k86).sz = 3 from rfl, Nat.mul_one, Nat.add_zero] at hf12_1); have hx12_2 := hcc12 2 _ rfl; (try simp only [show (k86).sz = 3 from rfl, Nat.mul_one, Nat.add_zero] at hx12_2); have hf12_2 := hfr12 2; (try simp only [show (k86).sz = 3 from rfl, Nat.mul_one, Nat.add_zero] at hf12_2); clear hcl12 hcc12 hfr12 hM12) | ((with_reducible refine gate_store (t := 86) (p := 21) rfl ?_); refine store_event (t := 86) (p := 21) (v := ?vo_w13) (w1 := (((w11.setCell ⟨go10, (x4_1 : Int).toNat * 3, none⟩ (.int .i64 t105)).setCell ⟨go10, (x4_1 : Int).toNat * 3 + 1, none⟩ (.string t106)).setCell ⟨go10, (x4_1 : Int).toNat * 3 + 2, none⟩ (.string t107))) ?hg ?ho ?hn ?hr ?_; (case ho => rfl); (case hg => rfl); (case hn => rfl); (case hr => first | (go_simp; done) | (go_simp; rfl)); intro w13 hw; have hg : w11.grownBy w13 (some go10) := (by rw [hw]; exact HP12.2); have hp_ : Kd.R k86 86 w13 w.heap.size (fun _ => True) (.slice (some ⟨go10, 0, none⟩) x3_1.length co10) y108 := (by rw [hw, Ny108.out]; exact HP12.1); clear HP12; have n0_ := mz (hp_); have n1_ := mz ((by rw [hw]; exact below_set (below_set (below_set (HB.out) GB10.out) GB10.out) GB10.out : Below w.heap.size w w13)); clear HO_3; clear HB; have HO_3 := n0_; have HB := n1_; clear n0_ n1_; clear hg hw hp_))
        go_roundg k1
        case measure => have := HK1.out; omega
        case rel => exact ⟨(y108), (wrap64 (x4_1 + 1)), a30_, H', ⟨by have := HK1.out; omega⟩, ⟨by (with_reducible repeat (first | apply Kd.R_alloc | apply Kd.R_drewN | apply Kd.R_drew)); exact HO_3.out⟩, ⟨by repeat (first | (with_reducible first | exact HB.out | apply below_alloc | apply pw_below_drewN | apply below_drew1) | exact HB.out)⟩⟩
       ·rw [if_neg c9] at H
        exact absurd H (by simp)
      ·rw [if_neg c7] at H
       exact absurd H (by simp)
     ·rw [if_neg c6] at H
      have c6b0 : decide (x4_1 < (l0.length : Int)) = false := decide_eq_false c6
      clear c6
      obtain rfl := Option.some.inj H
      go_wp2
      go_ret
      exact ⟨_, a27_, a24_, a12_⟩
  ·rw [if_neg c3] at H
   exact absurd H (by simp)
 ·rw [if_neg c2] at H
  exact absurd H (by simp)
end
section
attribute [local go_sem] max2_int min2_int max_two min_two max_three min_three max_four min_four
def laws_eqPart.f (a0_0 : Int) (a0_1 : ByteArray) (a0_2 : ByteArray) (a1_0 : Int) (a1_1 : ByteArray) (a1_2 : ByteArray) : Option (Bool) := if a0_0 = a1_0 then (if a0_1.toList = a1_1.toList then (if a0_2.toList = a1_2.toList then (some true) else (some false)) else (some false)) else (some false)
set_option maxHeartbeats 8000000 in
set_option maxRecDepth 100000 in
theorem laws_eqPart.calls (a0_0 : Int) (a0_1 : ByteArray) (a0_2 : ByteArray) (a1_0 : Int) (a1_1 : ByteArray) (a1_2 : ByteArray) (r : Bool) (w : World) (h : laws_eqPart.f a0_0 a0_1 a0_2 a1_0 a1_1 a1_2 = some r) :
  Calls Try.prog 56 #[.agg #[.int .i64 a0_0, .string a0_1, .string a0_2], .agg #[.int .i64 a1_0, .string a1_1, .string a1_2]] w fun e w' => e = .returned (.bool r) ∧ Below w.heap.size w w' := by
 have hu86 := Try.underlying86
 have HB := mz (Below.refl w.heap.size w)
 have H : (if a0_0 = a1_0 then (if a0_1.toList = a1_1.toList then (if a0_2.toList = a1_2.toList then (some true) else (some false)) else (some false)) else (some false)) = some r := h
 clear h
 by_cases c3 : a0_0 = a1_0
 ·rw [if_pos c3] at H
  have c3b0 : (a0_0 == a1_0) = true := beq_iff_eq.mpr c3
  have c3b1 : (a0_0 != a1_0) = false := bne_eq_false_iff_eq.mpr c3
  clear c3
  by_cases c4 : a0_1.toList = a1_1.toList
  ·rw [if_pos c4] at H
   have c4b0 : (a0_1.toList == a1_1.toList) = true := beq_iff_eq.mpr c4
   have c4b1 : (a0_1.toList != a1_1.toList) = false := bne_eq_false_iff_eq.mpr c4
   clear c4
   by_cases c5 : a0_2.toList = a1_2.toList
   ·rw [if_pos c5] at H
    have c5b0 : (a0_2.toList == a1_2.toList) = true := beq_iff_eq.mpr c5
    have c5b1 : (a0_2.toList != a1_2.toList) = false := bne_eq_false_iff_eq.mpr c5
    clear c5
    obtain rfl := Option.some.inj H
    go_enter Try.func56, Try.ntmps56
    go_wp2_with (first | ((with_reducible refine gate_dst (N := 2) rfl ?_); refine bz_ 2 #[.int .i64 a0_0, .string a0_1, .string a0_2] 86 ?_; intro gb101 hg w6 hbox hb; have n0_ := mz (bs0_ hb); have n1_ := mz (hbox); have n2_ := mz ((by rw [hg]; exact bz1_ : w.heap.size ≤ gb101)); have n3_ := mz ((by rw [hg]; exact bz1_ : w.heap.size ≤ gb101)); clear HB; have HB := n0_; have BK101 := n1_; have GW101 := n2_; have GE101 := n3_; clear n0_ n1_ n2_ n3_; clear hb hbox hg) | ((with_reducible refine gate_dst (N := 3) rfl ?_); refine bz_ 3 #[.int .i64 a1_0, .string a1_1, .string a1_2] 86 ?_; intro gb102 hg w7 hbox hb; have n0_ := mz (blk_below (g := gb101) (o := .cells #[.int .i64 a0_0, .string a0_1, .string a0_2] 86 (0, 0)) a14_ hb); have n1_ := mz (bs2_ hb); have n2_ := mz (hbox); have n3_ := mz ((by rw [hg]; exact bz5_ : w.heap.size ≤ gb102)); have n4_ := mz ((by rw [hg]; exact bz5_ : w.heap.size ≤ gb102)); have n5_ := mz ((by rw [hg]; exact Nat.ne_of_lt (blk_lt (g := gb101) (o := .cells #[.int .i64 a0_0, .string a0_1, .string a0_2] 86 (0, 0)) a14_) : gb101 ≠ gb102)); have n6_ := mz ((by rw [hg]; exact Nat.ne_of_gt (blk_lt (g := gb101) (o := .cells #[.int .i64 a0_0, .string a0_1, .string a0_2] 86 (0, 0)) a14_) : gb102 ≠ gb101)); clear BK101; clear HB; have BK101 := n0_; have HB := n1_; have BK102 := n2_; have GW102 := n3_; have GE102 := n4_; have NB101_102 := n5_; have NB102_101 := n6_; clear n0_ n1_ n2_ n3_ n4_ n5_ n6_; clear hb hbox hg; have hnb8 := NB101_102.out; have hnc8 := NB102_101.out; have hcz9_0 := bk_ BK101.out 0 (.int .i64 a0_0); have hcz9_1 := bk_ BK101.out 1 (.string a0_1); have hcz9_2 := bk_ BK101.out 2 (.string a0_2); have hfz9_0 := blk_frozen BK101.out 0; have hfz9_1 := blk_frozen BK101.out 1; have hfz9_2 := blk_frozen BK101.out 2; have hcz10_0 := bk_ BK102.out 0 (.int .i64 a1_0); have hcz10_1 := bk_ BK102.out 1 (.string a1_1); have hcz10_2 := bk_ BK102.out 2 (.string a1_2); have hfz10_0 := blk_frozen BK102.out 0; have hfz10_1 := blk_frozen BK102.out 1; have hfz10_2 := blk_frozen BK102.out 2))
    go_ret
    exact ⟨a27_, a6_⟩
   ·rw [if_neg c5] at H
    have c5b0 : (a0_2.toList == a1_2.toList) = false := beq_eq_false_iff_ne.mpr c5
    have c5b1 : (a0_2.toList != a1_2.toList) = true := bne_iff_ne.mpr c5
    obtain rfl := Option.some.inj H
    go_enter Try.func56, Try.ntmps56
    go_wp2_with (first | ((with_reducible refine gate_dst (N := 2) rfl ?_); refine bz_ 2 #[.int .i64 a0_0, .string a0_1, .string a0_2] 86 ?_; intro gb101 hg w11 hbox hb; have n0_ := mz (bs0_ hb); have n1_ := mz (hbox); have n2_ := mz ((by rw [hg]; exact bz1_ : w.heap.size ≤ gb101)); have n3_ := mz ((by rw [hg]; exact bz1_ : w.heap.size ≤ gb101)); clear HB; have HB := n0_; have BK101 := n1_; have GW101 := n2_; have GE101 := n3_; clear n0_ n1_ n2_ n3_; clear hb hbox hg) | ((with_reducible refine gate_dst (N := 3) rfl ?_); refine bz_ 3 #[.int .i64 a1_0, .string a1_1, .string a1_2] 86 ?_; intro gb102 hg w12 hbox hb; have n0_ := mz (blk_below (g := gb101) (o := .cells #[.int .i64 a0_0, .string a0_1, .string a0_2] 86 (0, 0)) a14_ hb); have n1_ := mz (bs2_ hb); have n2_ := mz (hbox); have n3_ := mz ((by rw [hg]; exact bz5_ : w.heap.size ≤ gb102)); have n4_ := mz ((by rw [hg]; exact bz5_ : w.heap.size ≤ gb102)); have n5_ := mz ((by rw [hg]; exact Nat.ne_of_lt (blk_lt (g := gb101) (o := .cells #[.int .i64 a0_0, .string a0_1, .string a0_2] 86 (0, 0)) a14_) : gb101 ≠ gb102)); have n6_ := mz ((by rw [hg]; exact Nat.ne_of_gt (blk_lt (g := gb101) (o := .cells #[.int .i64 a0_0, .string a0_1, .string a0_2] 86 (0, 0)) a14_) : gb102 ≠ gb101)); clear BK101; clear HB; have BK101 := n0_; have HB := n1_; have BK102 := n2_; have GW102 := n3_; have GE102 := n4_; have NB101_102 := n5_; have NB102_101 := n6_; clear n0_ n1_ n2_ n3_ n4_ n5_ n6_; clear hb hbox hg; have hnb13 := NB101_102.out; have hnc13 := NB102_101.out; have hcz14_0 := bk_ BK101.out 0 (.int .i64 a0_0); have hcz14_1 := bk_ BK101.out 1 (.string a0_1); have hcz14_2 := bk_ BK101.out 2 (.string a0_2); have hfz14_0 := blk_frozen BK101.out 0; have hfz14_1 := blk_frozen BK101.out 1; have hfz14_2 := blk_frozen BK101.out 2; have hcz15_0 := bk_ BK102.out 0 (.int .i64 a1_0); have hcz15_1 := bk_ BK102.out 1 (.string a1_1); have hcz15_2 := bk_ BK102.out 2 (.string a1_2); have hfz15_0 := blk_frozen BK102.out 0; have hfz15_1 := blk_frozen BK102.out 1; have hfz15_2 := blk_frozen BK102.out 2))
    go_ret
    exact ⟨a27_, a6_⟩
  ·rw [if_neg c4] at H
   have c4b0 : (a0_1.toList == a1_1.toList) = false := beq_eq_false_iff_ne.mpr c4
   have c4b1 : (a0_1.toList != a1_1.toList) = true := bne_iff_ne.mpr c4
   obtain rfl := Option.some.inj H
   go_enter Try.func56, Try.ntmps56
   go_wp2_with (first | ((with_reducible refine gate_dst (N := 2) rfl ?_); refine bz_ 2 #[.int .i64 a0_0, .string a0_1, .string a0_2] 86 ?_; intro gb101 hg w16 hbox hb; have n0_ := mz (bs0_ hb); have n1_ := mz (hbox); have n2_ := mz ((by rw [hg]; exact bz1_ : w.heap.size ≤ gb101)); have n3_ := mz ((by rw [hg]; exact bz1_ : w.heap.size ≤ gb101)); clear HB; have HB := n0_; have BK101 := n1_; have GW101 := n2_; have GE101 := n3_; clear n0_ n1_ n2_ n3_; clear hb hbox hg) | ((with_reducible refine gate_dst (N := 3) rfl ?_); refine bz_ 3 #[.int .i64 a1_0, .string a1_1, .string a1_2] 86 ?_; intro gb102 hg w17 hbox hb; have n0_ := mz (blk_below (g := gb101) (o := .cells #[.int .i64 a0_0, .string a0_1, .string a0_2] 86 (0, 0)) a14_ hb); have n1_ := mz (bs2_ hb); have n2_ := mz (hbox); have n3_ := mz ((by rw [hg]; exact bz5_ : w.heap.size ≤ gb102)); have n4_ := mz ((by rw [hg]; exact bz5_ : w.heap.size ≤ gb102)); have n5_ := mz ((by rw [hg]; exact Nat.ne_of_lt (blk_lt (g := gb101) (o := .cells #[.int .i64 a0_0, .string a0_1, .string a0_2] 86 (0, 0)) a14_) : gb101 ≠ gb102)); have n6_ := mz ((by rw [hg]; exact Nat.ne_of_gt (blk_lt (g := gb101) (o := .cells #[.int .i64 a0_0, .string a0_1, .string a0_2] 86 (0, 0)) a14_) : gb102 ≠ gb101)); clear BK101; clear HB; have BK101 := n0_; have HB := n1_; have BK102 := n2_; have GW102 := n3_; have GE102 := n4_; have NB101_102 := n5_; have NB102_101 := n6_; clear n0_ n1_ n2_ n3_ n4_ n5_ n6_; clear hb hbox hg; have hnb18 := NB101_102.out; have hnc18 := NB102_101.out; have hcz19_0 := bk_ BK101.out 0 (.int .i64 a0_0); have hcz19_1 := bk_ BK101.out 1 (.string a0_1); have hcz19_2 := bk_ BK101.out 2 (.string a0_2); have hfz19_0 := blk_frozen BK101.out 0; have hfz19_1 := blk_frozen BK101.out 1; have hfz19_2 := blk_frozen BK101.out 2; have hcz20_0 := bk_ BK102.out 0 (.int .i64 a1_0); have hcz20_1 := bk_ BK102.out 1 (.string a1_1); have hcz20_2 := bk_ BK102.out 2 (.string a1_2); have hfz20_0 := blk_frozen BK102.out 0; have hfz20_1 := blk_frozen BK102.out 1; have hfz20_2 := blk_frozen BK102.out 2))
   go_ret
   exact ⟨a27_, a6_⟩
 ·rw [if_neg c3] at H
  have c3b0 : (a0_0 == a1_0) = false := beq_eq_false_iff_ne.mpr c3
  have c3b1 : (a0_0 != a1_0) = true := bne_iff_ne.mpr c3
  obtain rfl := Option.some.inj H
  go_enter Try.func56, Try.ntmps56
  go_wp2_with (first | ((with_reducible refine gate_dst (N := 2) rfl ?_); refine bz_ 2 #[.int .i64 a0_0, .string a0_1, .string a0_2] 86 ?_; intro gb101 hg w21 hbox hb; have n0_ := mz (bs0_ hb); have n1_ := mz (hbox); have n2_ := mz ((by rw [hg]; exact bz1_ : w.heap.size ≤ gb101)); have n3_ := mz ((by rw [hg]; exact bz1_ : w.heap.size ≤ gb101)); clear HB; have HB := n0_; have BK101 := n1_; have GW101 := n2_; have GE101 := n3_; clear n0_ n1_ n2_ n3_; clear hb hbox hg) | ((with_reducible refine gate_dst (N := 3) rfl ?_); refine bz_ 3 #[.int .i64 a1_0, .string a1_1, .string a1_2] 86 ?_; intro gb102 hg w22 hbox hb; have n0_ := mz (blk_below (g := gb101) (o := .cells #[.int .i64 a0_0, .string a0_1, .string a0_2] 86 (0, 0)) a14_ hb); have n1_ := mz (bs2_ hb); have n2_ := mz (hbox); have n3_ := mz ((by rw [hg]; exact bz5_ : w.heap.size ≤ gb102)); have n4_ := mz ((by rw [hg]; exact bz5_ : w.heap.size ≤ gb102)); have n5_ := mz ((by rw [hg]; exact Nat.ne_of_lt (blk_lt (g := gb101) (o := .cells #[.int .i64 a0_0, .string a0_1, .string a0_2] 86 (0, 0)) a14_) : gb101 ≠ gb102)); have n6_ := mz ((by rw [hg]; exact Nat.ne_of_gt (blk_lt (g := gb101) (o := .cells #[.int .i64 a0_0, .string a0_1, .string a0_2] 86 (0, 0)) a14_) : gb102 ≠ gb101)); clear BK101; clear HB; have BK101 := n0_; have HB := n1_; have BK102 := n2_; have GW102 := n3_; have GE102 := n4_; have NB101_102 := n5_; have NB102_101 := n6_; clear n0_ n1_ n2_ n3_ n4_ n5_ n6_; clear hb hbox hg; have hnb23 := NB101_102.out; have hnc23 := NB102_101.out; have hcz24_0 := bk_ BK101.out 0 (.int .i64 a0_0); have hcz24_1 := bk_ BK101.out 1 (.string a0_1); have hcz24_2 := bk_ BK101.out 2 (.string a0_2); have hfz24_0 := blk_frozen BK101.out 0; have hfz24_1 := blk_frozen BK101.out 1; have hfz24_2 := blk_frozen BK101.out 2; have hcz25_0 := bk_ BK102.out 0 (.int .i64 a1_0); have hcz25_1 := bk_ BK102.out 1 (.string a1_1); have hcz25_2 := bk_ BK102.out 2 (.string a1_2); have hfz25_0 := blk_frozen BK102.out 0; have hfz25_1 := blk_frozen BK102.out 1; have hfz25_2 := blk_frozen BK102.out 2))
  go_ret
  exact ⟨a27_, a6_⟩
end
section
attribute [local go_sem] max2_int min2_int max_two min_two max_three min_three max_four min_four
def laws_eqPartS.l0 : Nat → List (S86) → List (S86) → Int → Option (Bool)
 | 0, _, _, _ => none
 | k + 1, x0, x1, x5 => if x5 < (x0.length : Int) then (if 0 ≤ x5 then (if x5 < (x1.length : Int) then ((laws_eqPart.f ((rd_T86 x0 x5).f0) ((rd_T86 x0 x5).f1) ((rd_T86 x0 x5).f2) ((rd_T86 x1 x5).f0) ((rd_T86 x1 x5).f1) ((rd_T86 x1 x5).f2)).bind fun t103 => (if t103 = true then (laws_eqPartS.l0 k x0 x1 (wrap64 (x5 + 1))) else (some false))) else (none)) else (none)) else (some true)
def laws_eqPartS.f (k : Nat) (l0 : List (S86)) (l1 : List (S86)) : Option (Bool) := if (l0.length : Int) = (l1.length : Int) then (laws_eqPartS.l0 k l0 l1 0) else (some false)
def laws_eqPartS.T6 : Bool × List (List Nat × List Nat) := (true, [([], []), ([], []), ([0, 1], [0, 1]), ([2], [2]), ([], []), ([], []), ([4, 5], [4, 5]), ([6], [6]), ([3, 7], [3, 7]), ([8], [8])])
def laws_eqPartS.B6 : List Nat := [0, 0, 3, 7, 0, 0, 48, 112, 255, 511]
theorem laws_eqPartS.tab6 : rtab .any (opsOf Try.f15 6) = laws_eqPartS.T6 := by kernel_rfl
theorem laws_eqPartS.bits6 : waitsOk laws_eqPartS.T6.2 laws_eqPartS.B6 = true := by kernel_rfl
set_option maxHeartbeats 8000000 in
set_option maxRecDepth 100000 in
theorem laws_eqPartS.calls (k : Nat) (A0 : Option Addr) (c0 : Nat) (l0 : List (S86)) (A1 : Option Addr) (c1 : Nat) (l1 : List (S86)) (r : Bool) (w : World) (hr0 : Kd.C k86 w A0 l0.length l0) (hc0 : l0.length ≤ c0) (hr1 : Kd.C k86 w A1 l1.length l1) (hc1 : l1.length ≤ c1) (h : laws_eqPartS.f k l0 l1 = some r) :
  Calls Try.prog 15 #[.slice A0 l0.length c0, .slice A1 l1.length c1] w fun e w' => e = .returned (.bool r) ∧ Below w.heap.size w w' := by
 have hu86 := Try.underlying86
 have HR0 := mz hr0
 have HC0 := mz hc0
 clear hr0 hc0
 have HR1 := mz hr1
 have HC1 := mz hc1
 clear hr1 hc1
 have HB := mz (Below.refl w.heap.size w)
 have H : (if (l0.length : Int) = (l1.length : Int) then (laws_eqPartS.l0 k l0 l1 0) else (some false)) = some r := h
 clear h
 by_cases c3 : (l0.length : Int) = (l1.length : Int)
 ·rw [if_pos c3] at H
  have c3b0 : ((l0.length : Int) == (l1.length : Int)) = true := beq_iff_eq.mpr c3
  have c3b1 : ((l0.length : Int) != (l1.length : Int)) = false := bne_eq_false_iff_eq.mpr c3
  have c3b2 : (l0.length == l1.length) = true := by first | simpa using c3 | (simp at c3 ⊢; omega)
  clear c3
  have H' := mz H
  clear H
  go_enter Try.func15, Try.ntmps15
  go_wp2
  go_loopg [5] k (fun kq v5 w' => ∃ (x5_1 : Int), v5 = .int .i64 x5_1 ∧ Aside0 (laws_eqPartS.l0 kq l0 l1 x5_1 = some r) ∧ Aside0 (kq ≤ k) ∧ Aside0 (Below w.heap.size w w'))
  case atStart => exact ⟨(0), a30_, H', ⟨Nat.le_refl _⟩, ⟨by repeat (first | (with_reducible first | exact HB.out | apply below_alloc | apply pw_below_drewN | apply below_drew1) | exact HB.out)⟩⟩
  case round =>
   clear H'
   try clear c1
   try clear p2
   try clear c3
   try clear c3b0
   try clear c3b1
   try clear c3b2
   obtain ⟨x5_1, rfl, HA, HK1, HB⟩ := hrel
   cases gk with
   | zero => exact absurd HA.out (by simp [laws_eqPartS.l0])
   | succ k1 =>
    have H := HA.out
    clear HA
    simp only [laws_eqPartS.l0] at H
    by_cases c4 : x5_1 < (l0.length : Int)
    ·rw [if_pos c4] at H
     have c4b0 : decide (x5_1 < (l0.length : Int)) = true := decide_eq_true c4
     clear c4
     by_cases c5 : 0 ≤ x5_1
     ·rw [if_pos c5] at H
      have c5b0 : decide (0 ≤ x5_1) = true := decide_eq_true c5
      clear c5
      by_cases c6 : x5_1 < (l1.length : Int)
      ·rw [if_pos c6] at H
       have c6b0 : decide (x5_1 < (l1.length : Int)) = true := decide_eq_true c6
       clear c6
       replace H := be0_ H
       obtain ⟨t103, A70, H⟩ := H
       replace H : (if t103 = true then (laws_eqPartS.l0 k1 l0 l1 (wrap64 (x5_1 + 1))) else (some false)) = some r := H
       have A7 := mz A70
       clear A70
       by_cases c8 : t103 = true
       ·subst c8
        have H1 : (laws_eqPartS.l0 k1 l0 l1 (wrap64 (x5_1 + 1))) = some r := by rw [if_pos rfl] at H; exact H
        clear H
        have H := H1
        clear H1
        have H' := mz H
        clear H
        try go_wp2
        have n0_ := mz (below_drew1 HB.out)
        clear HB
        have HB := n0_
        clear n0_
        have p101 : 0 ≤ (x5_1 : Int) := of_decide_eq_true a29_
        have q101 : x5_1 < (l0.length : Int) := of_decide_eq_true a29_
        obtain ⟨ad101, e101, hx101_0, hx101_1, hx101_2⟩ := at_T86 HR0.out x5_1 p101 q101
        have hw101_2 := hx101_2
        have hw101_1 := hx101_1
        have hw101_0 := hx101_0
        cases e101
        replace hx101_0 := bc_ HB.out hx101_0
        replace hx101_1 := bc_ HB.out hx101_1
        replace hx101_2 := bc_ HB.out hx101_2
        replace p101 := eq_true p101
        replace q101 := eq_true q101
        have p102 : 0 ≤ (x5_1 : Int) := of_decide_eq_true a29_
        have q102 : x5_1 < (l1.length : Int) := of_decide_eq_true a29_
        obtain ⟨ad102, e102, hx102_0, hx102_1, hx102_2⟩ := at_T86 HR1.out x5_1 p102 q102
        have hw102_2 := hx102_2
        have hw102_1 := hx102_1
        have hw102_0 := hx102_0
        cases e102
        replace hx102_0 := bc_ HB.out hx102_0
        replace hx102_1 := bc_ HB.out hx102_1
        replace hx102_2 := bc_ HB.out hx102_2
        replace p102 := eq_true p102
        replace q102 := eq_true q102
        refine start_ (n := 10) (S := fun w' => w'.cell? (ad101.add ((x5_1).toNat * 3)) = some (.int .i64 ((rd_T86 l0 x5_1).f0)) ∧ w'.cell? ⟨(ad101.add ((x5_1).toNat * 3)).block, (ad101.add ((x5_1).toNat * 3)).off + 1, none⟩ = some (.string ((rd_T86 l0 x5_1).f1)) ∧ w'.cell? ⟨(ad101.add ((x5_1).toNat * 3)).block, (ad101.add ((x5_1).toNat * 3)).off + 2, none⟩ = some (.string ((rd_T86 l0 x5_1).f2)) ∧ w'.cell? (ad102.add ((x5_1).toNat * 3)) = some (.int .i64 ((rd_T86 l1 x5_1).f0)) ∧ w'.cell? ⟨(ad102.add ((x5_1).toNat * 3)).block, (ad102.add ((x5_1).toNat * 3)).off + 1, none⟩ = some (.string ((rd_T86 l1 x5_1).f1)) ∧ w'.cell? ⟨(ad102.add ((x5_1).toNat * 3)).block, (ad102.add ((x5_1).toNat * 3)).off + 2, none⟩ = some (.string ((rd_T86 l1 x5_1).f2))) (ds := []) #[false, false, false, false, false, false, false, false, false, false] (by kernel_rfl) rfl rfl ⟨(bc_ HB.out hw101_0 :), (bc_ HB.out hw101_1 :), (bc_ HB.out hw101_2 :), (bc_ HB.out hw102_0 :), (bc_ HB.out hw102_1 :), (bc_ HB.out hw102_2 :)⟩ (fun hHeld => ?_); refine with_tabW laws_eqPartS.tab6 laws_eqPartS.bits6 (fun HT_ HW_ => ?_)
        generalize wr.drew = w9 at HB hx101_0 hx101_1 hx101_2 hx102_0 hx102_1 hx102_2 hHeld ⊢
        refine pure_ (i := 0) (N := some 17) (v := ?_) (a' := ?_) #[true, false, false, false, false, false, false, false, false, false] rfl rfl (any_of HT_.out (by kernel_rfl)) (fun _ _ _ h => h) (Or.inl ⟨by rfl, ?_⟩) ?_ ?_
        rotate_left
        ·intro w'
         go_simp
         with_reducible rfl
        rotate_left
        ·simp only [Act.put, List.setIfInBounds_toArray, List.set_cons_zero, List.set_cons_succ, i64_w, i32_w]
         rfl
        refine pure_ (i := 1) (N := some 18) (v := ?_) (a' := ?_) #[true, true, false, false, false, false, false, false, false, false] rfl rfl (any_of HT_.out (by kernel_rfl)) (fun _ _ _ h => h) (Or.inl ⟨by rfl, ?_⟩) ?_ ?_
        rotate_left
        ·intro w'
         go_simp
         with_reducible rfl
        rotate_left
        ·simp only [Act.put, List.setIfInBounds_toArray, List.set_cons_zero, List.set_cons_succ, i64_w, i32_w]
         rfl
        refine pure_ (i := 2) (N := some 19) (v := ?_) (a' := ?_) #[true, true, true, false, false, false, false, false, false, false] rfl rfl (any_of HT_.out (by kernel_rfl)) (fun _ _ _ h => h) (Or.inl ⟨by rfl, ?_⟩) ?_ ?_
        rotate_left
        ·intro w'
         go_simp
         with_reducible rfl
        rotate_left
        ·simp only [Act.put, List.setIfInBounds_toArray, List.set_cons_zero, List.set_cons_succ, i64_w, i32_w]
         rfl
        refine pure_ (i := 4) (N := some 21) (v := ?_) (a' := ?_) #[true, true, true, false, true, false, false, false, false, false] rfl rfl (any_of HT_.out (by kernel_rfl)) (fun _ _ _ h => h) (Or.inl ⟨by rfl, ?_⟩) ?_ ?_
        rotate_left
        ·intro w'
         go_simp
         with_reducible rfl
        rotate_left
        ·simp only [Act.put, List.setIfInBounds_toArray, List.set_cons_zero, List.set_cons_succ, i64_w, i32_w]
         rfl
        refine pure_ (i := 5) (N := some 22) (v := ?_) (a' := ?_) #[true, true, true, false, true, true, false, false, false, false] rfl rfl (any_of HT_.out (by kernel_rfl)) (fun _ _ _ h => h) (Or.inl ⟨by rfl, ?_⟩) ?_ ?_
        rotate_left
        ·intro w'
         go_simp
         with_reducible rfl
        rotate_left
        ·simp only [Act.put, List.setIfInBounds_toArray, List.set_cons_zero, List.set_cons_succ, i64_w, i32_w]
         rfl
        refine pure_ (i := 6) (N := some 23) (v := ?_) (a' := ?_) #[true, true, true, false, true, true, true, false, false, false] rfl rfl (any_of HT_.out (by kernel_rfl)) (fun _ _ _ h => h) (Or.inl ⟨by rfl, ?_⟩) ?_ ?_
        rotate_left
        ·intro w'
         go_simp
         with_reducible rfl
        rotate_left
        ·simp only [Act.put, List.setIfInBounds_toArray, List.set_cons_zero, List.set_cons_succ, i64_w, i32_w]
         rfl
        refine take_ (i := 3) (N := some 20) (v := ?_) (a' := ?_) #[true, true, true, true, true, true, true, false, false, false] rfl rfl (take_ofW HT_.out HW_.out (by kernel_rfl)) (fun _ _ _ h => h) (Or.inl ⟨by rfl, ?_⟩) hHeld ?_ ?_
        rotate_left
        ·rintro w' ⟨s0, s1, s2, s3, s4, s5⟩
         go_simp
         with_reducible rfl
        rotate_left
        ·simp only [Act.put, List.setIfInBounds_toArray, List.set_cons_zero, List.set_cons_succ, i64_w, i32_w]
         rfl
        refine take_ (i := 7) (N := some 24) (v := ?_) (a' := ?_) #[true, true, true, true, true, true, true, true, false, false] rfl rfl (take_ofW HT_.out HW_.out (by kernel_rfl)) (fun _ _ _ h => h) (Or.inl ⟨by rfl, ?_⟩) hHeld ?_ ?_
        rotate_left
        ·rintro w' ⟨s0, s1, s2, s3, s4, s5⟩
         go_simp
         with_reducible rfl
        rotate_left
        ·simp only [Act.put, List.setIfInBounds_toArray, List.set_cons_zero, List.set_cons_succ, i64_w, i32_w]
         rfl
        refine one_ (i := 8) (N := some 25) #[true, true, true, true, true, true, true, true, true, false] rfl rfl (one_of HT_.out (by kernel_rfl)) (by decide) (fun K hK => ?_)
        refine goes_ Try.func56 (by kernel_rfl) rfl #[.agg #[.int .i64 ((rd_T86 l0 x5_1).f0), .string ((rd_T86 l0 x5_1).f1), .string ((rd_T86 l0 x5_1).f2)], .agg #[.int .i64 ((rd_T86 l1 x5_1).f0), .string ((rd_T86 l1 x5_1).f1), .string ((rd_T86 l1 x5_1).f2)]] (by rfl) rfl rfl a11_ ?_
        with_reducible refine (laws_eqPart.calls ((rd_T86 l0 x5_1).f0) ((rd_T86 l0 x5_1).f1) ((rd_T86 l0 x5_1).f2) ((rd_T86 l1 x5_1).f0) ((rd_T86 l1 x5_1).f1) ((rd_T86 l1 x5_1).f2) true _ A7.out).mono ?_
        rintro e w10 ⟨rfl, hb⟩
        refine ⟨_, rfl, ?_⟩
        have n0_ := mz (bs0_ hb)
        clear HB
        have HB := n0_
        clear n0_
        (try clear hb)
        (try clear hb2)
        (try clear hk)
        (try clear hi)
        refine hK.out _ _ ⟨(bc_ HB.out hw101_0 :), (bc_ HB.out hw101_1 :), (bc_ HB.out hw101_2 :), (bc_ HB.out hw102_0 :), (bc_ HB.out hw102_1 :), (bc_ HB.out hw102_2 :)⟩ (fun hHeld => ?_)
        clear hK K
        refine norm_ (a' := ?_) ?_ ?_
        rotate_left
        ·show Act.put _ (some 25) _ = _
         simp only [Act.put, List.setIfInBounds_toArray, List.set_cons_zero, List.set_cons_succ, i64_w, i32_w]
         rfl
        refine pure_ (i := 9) (N := some 26) (v := ?_) (a' := ?_) #[true, true, true, true, true, true, true, true, true, true] rfl rfl (any_of HT_.out (by kernel_rfl)) (fun _ _ _ h => h) (Or.inl ⟨by rfl, ?_⟩) ?_ ?_
        rotate_left
        ·intro w'
         go_simp
         with_reducible rfl
        rotate_left
        ·simp only [Act.put, List.setIfInBounds_toArray, List.set_cons_zero, List.set_cons_succ, i64_w, i32_w]
         rfl
        refine done_ (done_of HT_.out (by kernel_rfl)) ?_
        try go_wp2
        go_roundg k1
        case measure => have := HK1.out; omega
        case rel => exact ⟨(wrap64 (x5_1 + 1)), a30_, H', ⟨by have := HK1.out; omega⟩, ⟨by repeat (first | (with_reducible first | exact HB.out | apply below_alloc | apply pw_below_drewN | apply below_drew1) | exact HB.out)⟩⟩
       ·replace c8 := Bool.eq_false_iff.mpr c8
        subst c8
        have H1 : (some false) = some r := by rw [if_neg (show ¬ (false = true) by decide)] at H; exact H
        clear H
        have H := H1
        clear H1
        obtain rfl := Option.some.inj H
        try go_wp2
        have n0_ := mz (below_drew1 HB.out)
        clear HB
        have HB := n0_
        clear n0_
        have p101 : 0 ≤ (x5_1 : Int) := of_decide_eq_true a29_
        have q101 : x5_1 < (l0.length : Int) := of_decide_eq_true a29_
        obtain ⟨ad101, e101, hx101_0, hx101_1, hx101_2⟩ := at_T86 HR0.out x5_1 p101 q101
        have hw101_2 := hx101_2
        have hw101_1 := hx101_1
        have hw101_0 := hx101_0
        cases e101
        replace hx101_0 := bc_ HB.out hx101_0
        replace hx101_1 := bc_ HB.out hx101_1
        replace hx101_2 := bc_ HB.out hx101_2
        replace p101 := eq_true p101
        replace q101 := eq_true q101
        have p102 : 0 ≤ (x5_1 : Int) := of_decide_eq_true a29_
        have q102 : x5_1 < (l1.length : Int) := of_decide_eq_true a29_
        obtain ⟨ad102, e102, hx102_0, hx102_1, hx102_2⟩ := at_T86 HR1.out x5_1 p102 q102
        have hw102_2 := hx102_2
        have hw102_1 := hx102_1
        have hw102_0 := hx102_0
        cases e102
        replace hx102_0 := bc_ HB.out hx102_0
        replace hx102_1 := bc_ HB.out hx102_1
        replace hx102_2 := bc_ HB.out hx102_2
        replace p102 := eq_true p102
        replace q102 := eq_true q102
        refine start_ (n := 10) (S := fun w' => w'.cell? (ad101.add ((x5_1).toNat * 3)) = some (.int .i64 ((rd_T86 l0 x5_1).f0)) ∧ w'.cell? ⟨(ad101.add ((x5_1).toNat * 3)).block, (ad101.add ((x5_1).toNat * 3)).off + 1, none⟩ = some (.string ((rd_T86 l0 x5_1).f1)) ∧ w'.cell? ⟨(ad101.add ((x5_1).toNat * 3)).block, (ad101.add ((x5_1).toNat * 3)).off + 2, none⟩ = some (.string ((rd_T86 l0 x5_1).f2)) ∧ w'.cell? (ad102.add ((x5_1).toNat * 3)) = some (.int .i64 ((rd_T86 l1 x5_1).f0)) ∧ w'.cell? ⟨(ad102.add ((x5_1).toNat * 3)).block, (ad102.add ((x5_1).toNat * 3)).off + 1, none⟩ = some (.string ((rd_T86 l1 x5_1).f1)) ∧ w'.cell? ⟨(ad102.add ((x5_1).toNat * 3)).block, (ad102.add ((x5_1).toNat * 3)).off + 2, none⟩ = some (.string ((rd_T86 l1 x5_1).f2))) (ds := []) #[false, false, false, false, false, false, false, false, false, false] (by kernel_rfl) rfl rfl ⟨(bc_ HB.out hw101_0 :), (bc_ HB.out hw101_1 :), (bc_ HB.out hw101_2 :), (bc_ HB.out hw102_0 :), (bc_ HB.out hw102_1 :), (bc_ HB.out hw102_2 :)⟩ (fun hHeld => ?_); refine with_tabW laws_eqPartS.tab6 laws_eqPartS.bits6 (fun HT_ HW_ => ?_)
        generalize wr.drew = w11 at HB hx101_0 hx101_1 hx101_2 hx102_0 hx102_1 hx102_2 hHeld ⊢
        refine pure_ (i := 0) (N := some 17) (v := ?_) (a' := ?_) #[true, false, false, false, false, false, false, false, false, false] rfl rfl (any_of HT_.out (by kernel_rfl)) (fun _ _ _ h => h) (Or.inl ⟨by rfl, ?_⟩) ?_ ?_
        rotate_left
        ·intro w'
         go_simp
         with_reducible rfl
        rotate_left
        ·simp only [Act.put, List.setIfInBounds_toArray, List.set_cons_zero, List.set_cons_succ, i64_w, i32_w]
         rfl
        refine pure_ (i := 1) (N := some 18) (v := ?_) (a' := ?_) #[true, true, false, false, false, false, false, false, false, false] rfl rfl (any_of HT_.out (by kernel_rfl)) (fun _ _ _ h => h) (Or.inl ⟨by rfl, ?_⟩) ?_ ?_
        rotate_left
        ·intro w'
         go_simp
         with_reducible rfl
        rotate_left
        ·simp only [Act.put, List.setIfInBounds_toArray, List.set_cons_zero, List.set_cons_succ, i64_w, i32_w]
         rfl
        refine pure_ (i := 2) (N := some 19) (v := ?_) (a' := ?_) #[true, true, true, false, false, false, false, false, false, false] rfl rfl (any_of HT_.out (by kernel_rfl)) (fun _ _ _ h => h) (Or.inl ⟨by rfl, ?_⟩) ?_ ?_
        rotate_left
        ·intro w'
         go_simp
         with_reducible rfl
        rotate_left
        ·simp only [Act.put, List.setIfInBounds_toArray, List.set_cons_zero, List.set_cons_succ, i64_w, i32_w]
         rfl
        refine pure_ (i := 4) (N := some 21) (v := ?_) (a' := ?_) #[true, true, true, false, true, false, false, false, false, false] rfl rfl (any_of HT_.out (by kernel_rfl)) (fun _ _ _ h => h) (Or.inl ⟨by rfl, ?_⟩) ?_ ?_
        rotate_left
        ·intro w'
         go_simp
         with_reducible rfl
        rotate_left
        ·simp only [Act.put, List.setIfInBounds_toArray, List.set_cons_zero, List.set_cons_succ, i64_w, i32_w]
         rfl
        refine pure_ (i := 5) (N := some 22) (v := ?_) (a' := ?_) #[true, true, true, false, true, true, false, false, false, false] rfl rfl (any_of HT_.out (by kernel_rfl)) (fun _ _ _ h => h) (Or.inl ⟨by rfl, ?_⟩) ?_ ?_
        rotate_left
        ·intro w'
         go_simp
         with_reducible rfl
        rotate_left
        ·simp only [Act.put, List.setIfInBounds_toArray, List.set_cons_zero, List.set_cons_succ, i64_w, i32_w]
         rfl
        refine pure_ (i := 6) (N := some 23) (v := ?_) (a' := ?_) #[true, true, true, false, true, true, true, false, false, false] rfl rfl (any_of HT_.out (by kernel_rfl)) (fun _ _ _ h => h) (Or.inl ⟨by rfl, ?_⟩) ?_ ?_
        rotate_left
        ·intro w'
         go_simp
         with_reducible rfl
        rotate_left
        ·simp only [Act.put, List.setIfInBounds_toArray, List.set_cons_zero, List.set_cons_succ, i64_w, i32_w]
         rfl
        refine take_ (i := 3) (N := some 20) (v := ?_) (a' := ?_) #[true, true, true, true, true, true, true, false, false, false] rfl rfl (take_ofW HT_.out HW_.out (by kernel_rfl)) (fun _ _ _ h => h) (Or.inl ⟨by rfl, ?_⟩) hHeld ?_ ?_
        rotate_left
        ·rintro w' ⟨s0, s1, s2, s3, s4, s5⟩
         go_simp
         with_reducible rfl
        rotate_left
        ·simp only [Act.put, List.setIfInBounds_toArray, List.set_cons_zero, List.set_cons_succ, i64_w, i32_w]
         rfl
        refine take_ (i := 7) (N := some 24) (v := ?_) (a' := ?_) #[true, true, true, true, true, true, true, true, false, false] rfl rfl (take_ofW HT_.out HW_.out (by kernel_rfl)) (fun _ _ _ h => h) (Or.inl ⟨by rfl, ?_⟩) hHeld ?_ ?_
        rotate_left
        ·rintro w' ⟨s0, s1, s2, s3, s4, s5⟩
         go_simp
         with_reducible rfl
        rotate_left
        ·simp only [Act.put, List.setIfInBounds_toArray, List.set_cons_zero, List.set_cons_succ, i64_w, i32_w]
         rfl
        refine one_ (i := 8) (N := some 25) #[true, true, true, true, true, true, true, true, true, false] rfl rfl (one_of HT_.out (by kernel_rfl)) (by decide) (fun K hK => ?_)
        refine goes_ Try.func56 (by kernel_rfl) rfl #[.agg #[.int .i64 ((rd_T86 l0 x5_1).f0), .string ((rd_T86 l0 x5_1).f1), .string ((rd_T86 l0 x5_1).f2)], .agg #[.int .i64 ((rd_T86 l1 x5_1).f0), .string ((rd_T86 l1 x5_1).f1), .string ((rd_T86 l1 x5_1).f2)]] (by rfl) rfl rfl a11_ ?_
        with_reducible refine (laws_eqPart.calls ((rd_T86 l0 x5_1).f0) ((rd_T86 l0 x5_1).f1) ((rd_T86 l0 x5_1).f2) ((rd_T86 l1 x5_1).f0) ((rd_T86 l1 x5_1).f1) ((rd_T86 l1 x5_1).f2) false _ A7.out).mono ?_
        rintro e w12 ⟨rfl, hb⟩
        refine ⟨_, rfl, ?_⟩
        have n0_ := mz (bs0_ hb)
        clear HB
        have HB := n0_
        clear n0_
        (try clear hb)
        (try clear hb2)
        (try clear hk)
        (try clear hi)
        refine hK.out _ _ ⟨(bc_ HB.out hw101_0 :), (bc_ HB.out hw101_1 :), (bc_ HB.out hw101_2 :), (bc_ HB.out hw102_0 :), (bc_ HB.out hw102_1 :), (bc_ HB.out hw102_2 :)⟩ (fun hHeld => ?_)
        clear hK K
        refine norm_ (a' := ?_) ?_ ?_
        rotate_left
        ·show Act.put _ (some 25) _ = _
         simp only [Act.put, List.setIfInBounds_toArray, List.set_cons_zero, List.set_cons_succ, i64_w, i32_w]
         rfl
        refine pure_ (i := 9) (N := some 26) (v := ?_) (a' := ?_) #[true, true, true, true, true, true, true, true, true, true] rfl rfl (any_of HT_.out (by kernel_rfl)) (fun _ _ _ h => h) (Or.inl ⟨by rfl, ?_⟩) ?_ ?_
        rotate_left
        ·intro w'
         go_simp
         with_reducible rfl
        rotate_left
        ·simp only [Act.put, List.setIfInBounds_toArray, List.set_cons_zero, List.set_cons_succ, i64_w, i32_w]
         rfl
        refine done_ (done_of HT_.out (by kernel_rfl)) ?_
        try go_wp2
        go_ret
        exact ⟨a27_, a12_⟩
      ·rw [if_neg c6] at H
       exact absurd H (by simp)
     ·rw [if_neg c5] at H
      exact absurd H (by simp)
    ·rw [if_neg c4] at H
     have c4b0 : decide (x5_1 < (l0.length : Int)) = false := decide_eq_false c4
     clear c4
     obtain rfl := Option.some.inj H
     go_wp2
     go_ret
     exact ⟨a27_, a12_⟩
 ·rw [if_neg c3] at H
  have c3b0 : ((l0.length : Int) == (l1.length : Int)) = false := beq_eq_false_iff_ne.mpr c3
  have c3b1 : ((l0.length : Int) != (l1.length : Int)) = true := bne_iff_ne.mpr c3
  have c3b2 : (l0.length == l1.length) = false := by first | simpa using c3 | (simp at c3 ⊢; omega)
  obtain rfl := Option.some.inj H
  go_enter Try.func15, Try.ntmps15
  go_wp2
  go_ret
  exact ⟨a27_, a12_⟩
end
abbrev LPart := S78
def partOf (p : LPart) : Part := ⟨p.f0, p.f1, p.f2⟩
def opOf (l : List LPart) : List Part := l.map partOf
def szP (p : LPart) (left : Int) : Int := if left - (p.f1.size : Int) < 0 then -1 else if left - (p.f1.size : Int) - (p.f2.size : Int) < 0 then -1 else left - (p.f1.size : Int) - (p.f2.size : Int)
theorem szPart_val (p : LPart) (left : Int) (h0 : 0 ≤ left) (h1 : left ≤ 1048576) (h2 : p.f1.size ≤ maxLen) (h3 : p.f2.size ≤ maxLen) : laws_szPart.f p.f0 p.f1 p.f2 left = some (szP p left) := by
 unfold laws_szPart.f szP
 simp only [maxLen] at h2 h3
 rw [w64 (n := left - (p.f1.size : Int)) (by omega) (by omega)]
 by_cases a : left - (p.f1.size : Int) < 0
 ·simp only [if_pos a]
 ·simp only [if_neg a]
  rw [w64 (n := left - (p.f1.size : Int) - (p.f2.size : Int)) (by omega) (by omega)]
  by_cases b : left - (p.f1.size : Int) - (p.f2.size : Int) < 0
  ·simp only [if_pos b]
  ·simp only [if_neg b]
def smallP (l : List LPart) : Prop := ∀ p ∈ l, p.f1.size ≤ 1048576 ∧ p.f2.size ≤ 1048576
theorem rd_lpart (l : List LPart) (i : Nat) (h : i < l.length) : rd_T78 l (i : Int) = l[i] := by
 simp [rd_T78, List.getD_eq_getElem?_getD, h]
theorem szPartS_loop (a : List LPart) (hm : a.length ≤ maxLen) (hB : ∀ p ∈ a, p.f1.size ≤ maxLen ∧ p.f2.size ≤ maxLen) (d : Nat) : ∀ (i : Nat) (left : Int), i + d = a.length → 0 ≤ left → left ≤ 1048576 →
  ∃ r, Ev (fun k => laws_szPartS.l0 k a left (i : Int)) r ∧ r ≤ left ∧ (0 ≤ r → smallP (a.drop i)) := by
 induction d with
 | zero =>
  intro i left h h0 h1
  refine ⟨left, ?_, by omega, fun _ p hp => ?_⟩
  ·refine Ev.succ ?_
   simp only [laws_szPartS.l0, if_neg (show ¬ ((i : Int) < (a.length : Int)) by omega)]
   exact Ev.now _
  ·rw [List.drop_eq_nil_of_le (by omega)] at hp; simp at hp
 | succ d ih =>
  intro i left h h0 h1
  have hi : i < a.length := by omega
  have hb := hB a[i] (List.getElem_mem hi)
  have e : a.drop i = a[i] :: a.drop (i + 1) := List.drop_eq_getElem_cons hi
  have hv := szPart_val a[i] left h0 h1 hb.1 hb.2
  have hz : szP a[i] left < 0 ∨ (0 ≤ szP a[i] left ∧ szP a[i] left ≤ left ∧ a[i].f1.size ≤ 1048576 ∧ a[i].f2.size ≤ 1048576) := by
   unfold szP; repeat' split
   all_goals omega
  simp only [maxLen] at hm
  have hs : ∀ k, laws_szPartS.l0 (k + 1) a left (i : Int) = if szP a[i] left < 0 then some (-1) else laws_szPartS.l0 k a (szP a[i] left) ((i + 1 : Nat) : Int) := by
   intro k
   simp only [laws_szPartS.l0, if_pos (show ((i : Int) < (a.length : Int)) by omega), if_pos (show (0 : Int) ≤ i by omega), rd_lpart a i hi, hv, Option.bind_some, w64 (show -9223372036854775808 ≤ (i : Int) + 1 by omega) (by omega)]
   rfl
  rcases hz with hz | ⟨z0, z1, z2, z3⟩
  ·refine ⟨-1, Ev.succ ?_, by omega, fun h => by omega⟩
   simp only [hs, if_pos hz]
   exact Ev.now _
  ·obtain ⟨r, hr, hle, hg⟩ := ih (i + 1) (szP a[i] left) (by omega) z0 (by omega)
   refine ⟨r, Ev.succ ?_, by omega, fun h => ?_⟩
   ·simp only [hs, if_neg (show ¬ szP a[i] left < 0 by omega)]
    exact hr
   ·intro p hp
    rw [e] at hp
    rcases List.mem_cons.1 hp with rfl | hp
    ·exact ⟨z2, z3⟩
    ·exact hg h p hp
theorem szPartS_ev (a : List LPart) (hm : a.length ≤ maxLen) (hB : ∀ p ∈ a, p.f1.size ≤ maxLen ∧ p.f2.size ≤ maxLen) (left : Int) (h0 : 0 ≤ left) (h1 : left ≤ 1048576) :
  ∃ r, Ev (fun k => laws_szPartS.f k a left) r ∧ r ≤ left ∧ (0 ≤ r → a.length ≤ 1048576 ∧ smallP a) := by
 unfold laws_szPartS.f
 have hm' := hm
 simp only [maxLen] at hm'
 rw [w64 (n := left - (a.length : Int)) (by omega) (by omega)]
 by_cases b : left - (a.length : Int) < 0
 ·simp only [if_pos b]
  exact ⟨-1, Ev.now _, by omega, fun h => by omega⟩
 ·simp only [if_neg b]
  obtain ⟨r, hr, hle, hg⟩ := szPartS_loop a hm hB a.length 0 (left - (a.length : Int)) (by omega) (by omega) (by omega)
  exact ⟨r, hr, by omega, fun h => ⟨by omega, by simpa using hg h⟩⟩

theorem toPartS_loop (a : List LPart) (hm : a.length ≤ 1048576) (d : Nat) : ∀ (i : Nat) (b : List Part), i + d = a.length → b.length = a.length → b.take i = opOf (a.take i) →
  Ev (fun k => laws_toPartS.l0 k a b (i : Int)) (opOf a) := by
 induction d with
 | zero =>
  intro i b h hb ht
  refine Ev.succ ?_
  simp only [laws_toPartS.l0, if_neg (show ¬ ((i : Int) < (a.length : Int)) by omega)]
  refine ev_eq (Ev.now b) ?_
  rwa [List.take_of_length_le (by omega), List.take_of_length_le (by omega)] at ht
 | succ d ih =>
  intro i b h hb ht
  have hi : i < a.length := by omega
  refine Ev.succ ?_
  simp only [laws_toPartS.l0, if_pos (show ((i : Int) < (a.length : Int)) by omega), if_pos (show (0 : Int) ≤ i by omega), rd_lpart a i hi, laws_toPart.f, Option.bind_some, if_pos (show ((i : Int) < (b.length : Int)) by omega), w64 (show -9223372036854775808 ≤ (i : Int) + 1 by omega) (by omega), Int.toNat_natCast]
  refine ih (i + 1) _ (by omega) (by simp [hb]) ?_
  rw [List.take_succ_eq_append_getElem (by simp; omega), List.take_succ_eq_append_getElem hi, List.take_set_of_le (by omega), ht]
  simp only [opOf, List.map_append, List.map_cons, List.map_nil, List.getElem_set_self]
  rfl
theorem toPartS_ev (a : List LPart) (hm : a.length ≤ 1048576) : Ev (fun k => laws_toPartS.f k a) (opOf a) := by
 unfold laws_toPartS.f
 simp only [if_pos (show (0 : Int) ≤ (a.length : Int) by omega), Int.toNat_natCast, if_pos (show a.length ≤ 7036874417766 by omega)]
 exact toPartS_loop a hm a.length 0 _ (by omega) (by simp) (by simp [opOf])
theorem opOf_length (a : List LPart) : (opOf a).length = a.length := by simp [opOf]

theorem eqPartS_loop (a : List Part) (hm : a.length ≤ maxLen) (d : Nat) : ∀ i : Nat, i + d = a.length → Ev (fun k => laws_eqPartS.l0 k a a (i : Int)) true := by
 simp only [maxLen] at hm
 induction d with
 | zero =>
  intro i h
  refine Ev.succ ?_
  simp only [laws_eqPartS.l0, if_neg (show ¬ ((i : Int) < (a.length : Int)) by omega)]
  exact Ev.now _
 | succ d ih =>
  intro i h
  have hi : i < a.length := by omega
  refine Ev.succ ?_
  simp only [laws_eqPartS.l0, if_pos (show ((i : Int) < (a.length : Int)) by omega), if_pos (show (0 : Int) ≤ i by omega), rd_part a i hi, laws_eqPart.f, if_true, Option.bind_some, w64 (show -9223372036854775808 ≤ (i : Int) + 1 by omega) (by omega)]
  exact ih (i + 1) (by omega)
theorem eqPartS_ev (a : List Part) (hm : a.length ≤ maxLen) : Ev (fun k => laws_eqPartS.f k a a) true := by
 unfold laws_eqPartS.f
 simp only [if_true]
 exact eqPartS_loop a hm a.length 0 (by omega)
section
attribute [local go_sem] max2_int min2_int max_two min_two max_three min_three max_four min_four
def laws_markText.l0 : Nat → Int → ByteArray → Option (ByteArray)
 | 0, _, _ => none
 | k + 1, x0, x3 => if x0 > 0 then ((some (([(wrap64 (48 + (Int.tmod x0 10))) % 256] : List Int) : List Int)).bind fun y101 => (if (strOfNums y101).size + x3.size ≤ 9223372036854775807 then (laws_markText.l0 k (wrap64 (Int.tdiv x0 10)) ((strOfNums y101) ++ x3)) else (none))) else (if 1 + x3.size ≤ 9223372036854775807 then (some ((⟨#[109]⟩ : ByteArray) ++ x3)) else (none))
def laws_markText.f (k : Nat) (a0 : Int) : Option (ByteArray) := if a0 ≤ 0 then (some (⟨#[109, 48]⟩ : ByteArray)) else (laws_markText.l0 k a0 (⟨#[]⟩ : ByteArray))
set_option maxHeartbeats 8000000 in
set_option maxRecDepth 100000 in
theorem laws_markText.calls (k : Nat) (a0 : Int) (r : ByteArray) (w : World) (h : laws_markText.f k a0 = some r) :
  Calls Try.prog 58 #[.int .i64 a0] w fun e w' => e = .returned (.string r) ∧ Below w.heap.size w w' := by
 have HB := mz (Below.refl w.heap.size w)
 have H : (if a0 ≤ 0 then (some (⟨#[109, 48]⟩ : ByteArray)) else (laws_markText.l0 k a0 (⟨#[]⟩ : ByteArray))) = some r := h
 clear h
 by_cases c2 : a0 ≤ 0
 ·rw [if_pos c2] at H
  have c2b0 : decide (a0 ≤ 0) = true := decide_eq_true c2
  clear c2
  obtain rfl := Option.some.inj H
  go_enter Try.func58, Try.ntmps58
  go_wp2
  go_ret
  exact ⟨a27_, a12_⟩
 ·rw [if_neg c2] at H
  have c2b0 : decide (a0 ≤ 0) = false := decide_eq_false c2
  clear c2
  have H' := mz H
  clear H
  go_enter Try.func58, Try.ntmps58
  go_wp2
  go_loopg [0, 3] k (fun kq v0 v3 w' => ∃ (x0_1 : Int) (x3_1 : ByteArray), v0 = .int .i64 x0_1 ∧ v3 = .string x3_1 ∧ Aside0 (laws_markText.l0 kq x0_1 x3_1 = some r) ∧ Aside0 (kq ≤ k) ∧ Aside0 (Below w.heap.size w w'))
  case atStart => exact ⟨(a0), ((⟨#[]⟩ : ByteArray)), a30_, a30_, H', ⟨Nat.le_refl _⟩, ⟨by repeat (first | (with_reducible first | exact HB.out | apply below_alloc | apply pw_below_drewN | apply below_drew1) | exact HB.out)⟩⟩
  case round =>
   clear H'
   try clear c2
   try clear c2b0
   try clear p2
   obtain ⟨x0_1, x3_1, rfl, rfl, HA, HK1, HB⟩ := hrel
   cases gk with
   | zero => exact absurd HA.out (by simp [laws_markText.l0])
   | succ k1 =>
    have H := HA.out
    clear HA
    simp only [laws_markText.l0] at H
    by_cases c3 : x0_1 > 0
    ·rw [if_pos c3] at H
     have c3b0 : decide (0 < x0_1) = true := decide_eq_true c3
     clear c3
     obtain ⟨y101, hy101⟩ : ∃ y_ : List Int, y_ = (([(wrap64 (48 + (Int.tmod x0_1 10))) % 256] : List Int)) := ⟨_, rfl⟩
     replace H : (if (strOfNums y101).size + x3_1.size ≤ 9223372036854775807 then (laws_markText.l0 k1 (wrap64 (Int.tdiv x0_1 10)) ((strOfNums y101) ++ x3_1)) else (none)) = some r := by first | (rw [hy101]; with_reducible exact H) | (have H2_ := (Option.bind_some _ _).symm.trans H; rw [hy101]; with_reducible exact H2_) | (have H2_ := (Option.bind_some _ _).symm.trans H; with_reducible exact H2_) | with_reducible exact H | (rw [hy101]; exact H) | exact H
     have Ny101 := mz hy101
     clear hy101
     by_cases c4 : (strOfNums y101).size + x3_1.size ≤ 9223372036854775807
     ·rw [if_pos c4] at H
      have c4b0 := eq_true c4
      have c4b1 : decide ((strOfNums y101).size + x3_1.size ≤ 9223372036854775807) = true := decide_eq_true c4
      try have c4b2 : (9223372036854775807 < (strOfNums y101).size + x3_1.size) = False := eq_false (Nat.not_lt.2 c4)
      have H' := mz H
      clear H
      go_wp2_with (first | ((with_reducible refine gate_dst (N := 12) rfl ?_); refine Kd.R_lit (Kd.int .u8) _ 5 ?hg (N := 12) ?hd (xs := ([(wrap64 (48 + (Int.tmod x0_1 10))) % 256] : List Int)) (inner := [.int .u8 ((wrap64 (48 + (Int.tmod x0_1 10))) % 256)]) (ok := fun _ => True) (okp := fun _ => True) ?hr ?hp (fun _ hk => hk) trivial (Below.refl _ _) (Nat.le_refl _) (by simp) ?_; (case hd => rfl); (case hg => rfl); (case hr => first | (go_simp; done) | (go_simp; rfl)); (case hp => exact (Reps.one (show Kd.M (Kd.int .u8) _ _ _ ((wrap64 (48 + (Int.tmod x0_1 10))) % 256) [.int .u8 ((wrap64 (48 + (Int.tmod x0_1 10))) % 256)] from rfl) (Reps.none _ _))); intro v102 w5 ho6 hb hg_ hnew_; clear hg_ hnew_; (first | rw [← Ny101.out] at ho6 | (simp only [Int.reduceToNat] at ho6; rw [← Ny101.out] at ho6)); have n0_ := mz (Kd.R_lower ho6 bz1_); have n1_ := mz (bs0_ hb); clear HB; have HO103 := n0_; have HB := n1_; clear n0_ n1_; clear hb ho6; have hcv7 := own_string (P := Try.prog) Try.underlying136 Try.underlying5 Try.underlying9 (Kd.own_of_R HO103.out)))
      go_roundg k1
      case measure => have := HK1.out; omega
      case rel => exact ⟨(wrap64 (Int.tdiv x0_1 10)), ((strOfNums y101) ++ x3_1), a30_, a30_, H', ⟨by have := HK1.out; omega⟩, ⟨by repeat (first | (with_reducible first | exact HB.out | apply below_alloc | apply pw_below_drewN | apply below_drew1) | exact HB.out)⟩⟩
     ·rw [if_neg c4] at H
      exact absurd H (by simp)
    ·rw [if_neg c3] at H
     have c3b0 : decide (0 < x0_1) = false := decide_eq_false c3
     clear c3
     by_cases c8 : 1 + x3_1.size ≤ 9223372036854775807
     ·rw [if_pos c8] at H
      have c8b0 := eq_true c8
      have c8b1 : decide (1 + x3_1.size ≤ 9223372036854775807) = true := decide_eq_true c8
      try have c8b2 : (9223372036854775807 < 1 + x3_1.size) = False := eq_false (Nat.not_lt.2 c8)
      obtain rfl := Option.some.inj H
      go_wp2
      go_ret
      exact ⟨a27_, a12_⟩
     ·rw [if_neg c8] at H
      exact absurd H (by simp)
end
theorem strOfNums_one (x : Int) : (strOfNums [x]).size = 1 := by simp [strOfNums, ByteArray.size]
theorem markText_loop (m : Nat) : ∀ (n : Int) (acc : ByteArray), n.toNat < m → 0 ≤ n → n + acc.size ≤ 4611686018427387904 → ∃ s, Ev (fun k => laws_markText.l0 k n acc) s := by
 induction m with
 | zero => intro n acc h; omega
 | succ m ih =>
  intro n acc h h0 hb
  by_cases hn : n > 0
  ·have e1 : Int.tmod n 10 = n % 10 := Int.tmod_eq_emod_of_nonneg h0
   have e2 : Int.tdiv n 10 = n / 10 := Int.tdiv_eq_ediv_of_nonneg h0
   have hsz : ∀ x : Int, (strOfNums [x] ++ acc).size = 1 + acc.size := fun x => by rw [ByteArray.size_append, strOfNums_one]
   obtain ⟨s, hs⟩ := ih (n / 10) (strOfNums [(wrap64 (48 + (n % 10))) % 256] ++ acc) (by omega) (by omega) (by rw [hsz]; omega)
   refine ⟨s, Ev.succ ?_⟩
   simp only [laws_markText.l0, if_pos hn, Option.bind_some, strOfNums_one, if_pos (show 1 + acc.size ≤ 9223372036854775807 by omega), e1, e2, w64 (show -9223372036854775808 ≤ n / 10 by omega) (by omega)]
   exact hs
  ·refine ⟨(⟨#[109]⟩ : ByteArray) ++ acc, Ev.succ ?_⟩
   simp only [laws_markText.l0, if_neg hn, if_pos (show 1 + acc.size ≤ 9223372036854775807 by omega)]
   exact Ev.now _
theorem markText_some (n : Int) (h : n ≤ 4611686018427387904) : ∃ s, Ev (fun k => laws_markText.f k n) s := by
 unfold laws_markText.f
 by_cases hn : n ≤ 0
 ·simp only [if_pos hn]; exact ⟨_, Ev.now _⟩
 ·simp only [if_neg hn]
  exact markText_loop (n.toNat + 1) n ⟨#[]⟩ (by omega) (by omega) (by show n + 0 ≤ _; omega)
noncomputable def mtext (n : Int) : ByteArray := if h : n ≤ 4611686018427387904 then Classical.choose (markText_some n h) else ByteArray.empty
theorem mtext_ev (n : Int) (h : n ≤ 4611686018427387904) : Ev (fun k => laws_markText.f k n) (mtext n) := by
 unfold mtext
 rw [dif_pos h]
 exact Classical.choose_spec (markText_some n h)
end Go.Proofs.Ytgccoekganghhaa.X
