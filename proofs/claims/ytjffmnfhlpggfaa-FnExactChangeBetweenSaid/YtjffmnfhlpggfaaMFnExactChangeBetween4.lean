/- The law FnExactChangeBetween of the program: its proof, part 4. -/
import Derived.Test.YtjffmnfhlpggfaaMFnExactChangeBetween3
import Derived.Test.YtjffmnfhlpggfaaMFnExactChangeBetween2
import Derived.Deep.DeepCutAuto
import Derived.Shelf.Abstract
import Derived.Deep.RegionHeld3
import Derived.Deep.DrawnRows
import Derived.Deep.RegionWith
set_option linter.unusedVariables false
set_option linter.unusedSimpArgs false
namespace Go.Proofs.Ytjffmnfhlpggfaa.X
open Go.RowKit Go.Proofs.YtjffmnfhlpggfaaW.PrintWords Go.Proofs.YtjffmnfhlpggfaaW.PrintLast Go.Proofs.YtjffmnfhlpggfaaW.PrintMore
theorem addL_snoc (o : List Part) (q p : Part) (hz : ¬ (p.f0 = 0 ∧ p.f1.size = 0 ∧ p.f2.size = 0)) : addL (o ++ [q]) p =
    if 0 < p.f0 ∧ 0 < q.f0 then o ++ [⟨q.f0 + p.f0, q.f1, q.f2⟩]
    else if p.f2.size ≠ 0 ∧ q.f2.size ≠ 0 then o ++ [⟨q.f0, q.f1, q.f2 ++ p.f2⟩]
    else if p.f1.size ≠ 0 ∧ q.f1.size ≠ 0 then o ++ [⟨q.f0, q.f1 ++ p.f1, q.f2⟩]
    else if p.f1.size ≠ 0 ∧ q.f2.size ≠ 0 then
      match o.getLast? with
      | some r => if r.f1.size ≠ 0 then o.dropLast ++ [⟨r.f0, r.f1 ++ p.f1, r.f2⟩, q] else o ++ [p, q]
      | none => o ++ [p, q]
    else o ++ [q] ++ [p] := by
  unfold addL
  rw [if_neg hz, List.getLast?_append]
  simp only [List.getLast?_singleton, Option.some_or, List.dropLast_concat]
  rfl

def AddOk (L : List Part) (p : Part) : Prop := pureP p ∧ L.length ≤ 900000 ∧ smallQ 1000000 p ∧ ∀ q ∈ L, smallQ 1000000000 q
set_option maxHeartbeats 8000000 in
set_option maxRecDepth 100000 in
theorem add_walk (base : Nat) (v : Value) (L : List Part) (p : Part) (w : World) (h : OwnP base w v L) (hb : base ≤ w.heap.size) (hk : AddOk L p) :
    Calls Try.prog 86 #[v, .agg #[.int .i64 p.f0, .string p.f1, .string p.f2]] w fun e w' => ∃ v', e = .returned v' ∧ AddPost base v (addL L p) w w' v' := by
  have HO := mz h
  have HS := mz hb
  obtain ⟨hp, k1, ⟨p0, p1, p2, p3⟩, k2⟩ := hk
  have HN9 := mz k1
  have HQ := mz k2
  clear h hb k1 k2
  by_cases hz : p.f0 = 0 ∧ p.f1.size = 0 ∧ p.f2.size = 0
  · have hv : addL L p = L := by unfold addL; rw [if_pos hz]
    obtain ⟨z0, z1, z2⟩ := hz
    have HV := mz hv
    have hf0 : (p.f0 == 0) = true := by rw [z0]; rfl
    have l_pf1 : p.f1.toList = [] := (toList_nil _).2 z1
    have e_pf1 : p.f1.toList.isEmpty = true := by rw [l_pf1]; rfl
    have l_pf2 : p.f2.toList = [] := (toList_nil _).2 z2
    have e_pf2 : p.f2.toList.isEmpty = true := by rw [l_pf2]; rfl
    clear hv z1 z2 p0 p1 p2 p3 z0
    obtain ⟨A0, c0, rfl⟩ := own_slice HO.out
    go_enter Try.func86, Try.ntmps86
    go_wp2_with ((with_reducible refine gate_dst (N := 3) rfl ?_); refine bx 3 #[.int .i64 p.f0, .string p.f1, .string p.f2] 76 ?_; intro g3 hg w1 hbox hb1; have HG3 := mz hg; have HB1 := mz hb1; have K3 := mz hbox; have HO1 := mz (HO.out.below hb1); obtain ⟨x0, x1, x2⟩ := cells3 hbox; clear hg hbox hb1)
    go_ret
    exact ⟨_, rfl, by rw [HV.out]; exact ⟨HO1.out, AStep.of_below HB1.out HS.out⟩⟩
  rcases List.eq_nil_or_concat L with rfl | ⟨o, q, rfl⟩
  · have hz' := hz
    by_cases hk0 : 0 < p.f0
    · have hk : 0 < p.f0 := hk0
      obtain ⟨y1, y2⟩ := hp.2.1 (by omega)
      have hf0 : (p.f0 == 0) = false := by simp; omega
      have l_pf1 : p.f1.toList = [] := (toList_nil _).2 y1
      have e_pf1 : p.f1.toList.isEmpty = true := by rw [l_pf1]; rfl
      have l_pf2 : p.f2.toList = [] := (toList_nil _).2 y2
      have e_pf2 : p.f2.toList.isEmpty = true := by rw [l_pf2]; rfl
      clear y1 y2 hk0
      have hv : addL [] p = [] ++ [p] := by unfold addL; rw [if_neg hz]; rfl
      have HV := mz hv
      clear hv hz hp p0 p1 p2 p3
      obtain ⟨A0, c0, rfl⟩ := own_slice HO.out
      obtain ⟨i0, hi, hz0, hz1, hz2⟩ := info_parts info76
      have HI := mz hi
      have HZ0 := mz hz0
      have HZ1 := mz hz1
      have HZ2 := mz hz2
      clear hi hz0 hz1 hz2
      go_enter Try.func86, Try.ntmps86
      go_wp2_with (first | ((with_reducible refine gate_dst (N := 3) rfl ?_); refine bx 3 #[.int .i64 p.f0, .string p.f1, .string p.f2] 76 ?_; intro g3 hg w1 hbox hb1; have HG3 := mz hg; have HB1 := mz hb1; have K3 := mz hbox; have HO1 := mz (HO.out.below hb1); obtain ⟨x0, x1, x2⟩ := cells3 hbox; clear hg hbox hb1) | (at_builtin; refine wpList_append_lies _ rfl (.tmp 27) (.tmp 29) 34 rfl base 76 i0 (.agg #[.int .i64 0, .string ⟨#[]⟩, .string ⟨#[]⟩]) 3 40 Try.underlying34 HI.out HZ0.out HZ1.out HZ2.out rfl (by decide) (.slice A0 ([] : List Part).length c0) ([] : List Part).length (([] : List Part).flatMap cellsP) (by rfl) (own_alloc HO1.out _) ⟨w1.heap.size, 0, none⟩ 1 1 (cellsP p) (by rfl) rfl (cells_new _ _ _) (fun u hu => cells_one [p] u (by simpa using hu)) (by omega) (by unfold maxLen; have := HN9.out; omega) (by have := HN9.out; omega) (Nat.le_trans (Nat.le_trans HS.out HB1.out.size) (by simp)) _ rfl ?_; intro g1 cap1 w2 ho hg hat hlt; have HAP := mz (add_app HO1.out (Nat.le_trans HS.out HB1.out.size) ho hg (hat.imp id (fun h => h.trans (by simp)))); clear ho hg hat hlt))
      go_ret
      exact ⟨_, rfl, by rw [HV.out]; exact ⟨HAP.out.1, (AStep.of_below HB1.out HS.out).trans HAP.out.2⟩⟩
    have z0 : p.f0 = 0 := by omega
    by_cases y1 : p.f1.size = 0
    · have hb2 : p.f2.size ≠ 0 := fun e => hz ⟨z0, y1, e⟩
      have hf0 : (p.f0 == 0) = true := by rw [z0]; rfl
      have hfg : ¬ 0 < p.f0 := by omega
      have l_pf1 : p.f1.toList = [] := (toList_nil _).2 y1
      have e_pf1 : p.f1.toList.isEmpty = true := by rw [l_pf1]; rfl
      have l_pf2 : ¬ (p.f2.toList = []) := fun e => hb2 ((toList_nil _).1 e)
      have e_pf2 : p.f2.toList.isEmpty = false := by cases hh : p.f2.toList with | nil => exact absurd hh l_pf2 | cons _ _ => rfl
      clear y1 hb2 z0 hk0
      have hv : addL [] p = [] ++ [p] := by unfold addL; rw [if_neg hz]; rfl
      have HV := mz hv
      clear hv hz hp p0 p1 p2 p3
      obtain ⟨A0, c0, rfl⟩ := own_slice HO.out
      obtain ⟨i0, hi, hz0, hz1, hz2⟩ := info_parts info76
      have HI := mz hi
      have HZ0 := mz hz0
      have HZ1 := mz hz1
      have HZ2 := mz hz2
      clear hi hz0 hz1 hz2
      go_enter Try.func86, Try.ntmps86
      go_wp2_with (first | ((with_reducible refine gate_dst (N := 3) rfl ?_); refine bx 3 #[.int .i64 p.f0, .string p.f1, .string p.f2] 76 ?_; intro g3 hg w1 hbox hb1; have HG3 := mz hg; have HB1 := mz hb1; have K3 := mz hbox; have HO1 := mz (HO.out.below hb1); obtain ⟨x0, x1, x2⟩ := cells3 hbox; clear hg hbox hb1) | (at_builtin; refine wpList_append_lies _ rfl (.tmp 27) (.tmp 29) 34 rfl base 76 i0 (.agg #[.int .i64 0, .string ⟨#[]⟩, .string ⟨#[]⟩]) 3 40 Try.underlying34 HI.out HZ0.out HZ1.out HZ2.out rfl (by decide) (.slice A0 ([] : List Part).length c0) ([] : List Part).length (([] : List Part).flatMap cellsP) (by rfl) (own_alloc HO1.out _) ⟨w1.heap.size, 0, none⟩ 1 1 (cellsP p) (by rfl) rfl (cells_new _ _ _) (fun u hu => cells_one [p] u (by simpa using hu)) (by omega) (by unfold maxLen; have := HN9.out; omega) (by have := HN9.out; omega) (Nat.le_trans (Nat.le_trans HS.out HB1.out.size) (by simp)) _ rfl ?_; intro g1 cap1 w2 ho hg hat hlt; have HAP := mz (add_app HO1.out (Nat.le_trans HS.out HB1.out.size) ho hg (hat.imp id (fun h => h.trans (by simp)))); clear ho hg hat hlt))
      go_ret
      exact ⟨_, rfl, by rw [HV.out]; exact ⟨HAP.out.1, (AStep.of_below HB1.out HS.out).trans HAP.out.2⟩⟩
    · have hb1 : p.f1.size ≠ 0 := y1
      have hf0 : (p.f0 == 0) = true := by rw [z0]; rfl
      have hfg : ¬ 0 < p.f0 := by omega
      have l_pf1 : ¬ (p.f1.toList = []) := fun e => hb1 ((toList_nil _).1 e)
      have e_pf1 : p.f1.toList.isEmpty = false := by cases hh : p.f1.toList with | nil => exact absurd hh l_pf1 | cons _ _ => rfl
      have y2 := hp.2.2 hb1
      have l_pf2 : p.f2.toList = [] := (toList_nil _).2 y2
      have e_pf2 : p.f2.toList.isEmpty = true := by rw [l_pf2]; rfl
      clear y1 y2 hb1 z0 hk0
      have hv : addL [] p = [] ++ [p] := by unfold addL; rw [if_neg hz]; rfl
      have HV := mz hv
      clear hv hz hp p0 p1 p2 p3
      obtain ⟨A0, c0, rfl⟩ := own_slice HO.out
      obtain ⟨i0, hi, hz0, hz1, hz2⟩ := info_parts info76
      have HI := mz hi
      have HZ0 := mz hz0
      have HZ1 := mz hz1
      have HZ2 := mz hz2
      clear hi hz0 hz1 hz2
      go_enter Try.func86, Try.ntmps86
      go_wp2_with (first | ((with_reducible refine gate_dst (N := 3) rfl ?_); refine bx 3 #[.int .i64 p.f0, .string p.f1, .string p.f2] 76 ?_; intro g3 hg w1 hbox hb1; have HG3 := mz hg; have HB1 := mz hb1; have K3 := mz hbox; have HO1 := mz (HO.out.below hb1); obtain ⟨x0, x1, x2⟩ := cells3 hbox; clear hg hbox hb1) | (at_builtin; refine wpList_append_lies _ rfl (.tmp 27) (.tmp 29) 34 rfl base 76 i0 (.agg #[.int .i64 0, .string ⟨#[]⟩, .string ⟨#[]⟩]) 3 40 Try.underlying34 HI.out HZ0.out HZ1.out HZ2.out rfl (by decide) (.slice A0 ([] : List Part).length c0) ([] : List Part).length (([] : List Part).flatMap cellsP) (by rfl) (own_alloc HO1.out _) ⟨w1.heap.size, 0, none⟩ 1 1 (cellsP p) (by rfl) rfl (cells_new _ _ _) (fun u hu => cells_one [p] u (by simpa using hu)) (by omega) (by unfold maxLen; have := HN9.out; omega) (by have := HN9.out; omega) (Nat.le_trans (Nat.le_trans HS.out HB1.out.size) (by simp)) _ rfl ?_; intro g1 cap1 w2 ho hg hat hlt; have HAP := mz (add_app HO1.out (Nat.le_trans HS.out HB1.out.size) ho hg (hat.imp id (fun h => h.trans (by simp)))); clear ho hg hat hlt))
      go_ret
      exact ⟨_, rfl, by rw [HV.out]; exact ⟨HAP.out.1, (AStep.of_below HB1.out HS.out).trans HAP.out.2⟩⟩
  · rw [List.concat_eq_append] at *
    have hs := addL_snoc o q p hz
    by_cases hk0 : 0 < p.f0
    · have hk : 0 < p.f0 := hk0
      obtain ⟨y1, y2⟩ := hp.2.1 (by omega)
      have hf0 : (p.f0 == 0) = false := by simp; omega
      have l_pf1 : p.f1.toList = [] := (toList_nil _).2 y1
      have e_pf1 : p.f1.toList.isEmpty = true := by rw [l_pf1]; rfl
      have l_pf2 : p.f2.toList = [] := (toList_nil _).2 y2
      have e_pf2 : p.f2.toList.isEmpty = true := by rw [l_pf2]; rfl
      by_cases hq : 0 < q.f0
      · have hv : addL (o ++ [q]) p = o ++ [⟨q.f0 + p.f0, q.f1, q.f2⟩] := by rw [hs, if_pos ⟨hk, hq⟩]
        have HV := mz hv
        have HPB : Aside0 (p.f0 ≤ 1000000) := ⟨p1⟩
        clear hv hs hz hp y1 y2
        obtain ⟨gr, cap, rfl, hgr, r0', r1', r2', _⟩ := row_at HO.out o.length (by simp)
        simp only [List.getElem_append_right (Nat.le_refl o.length), Nat.sub_self, List.getElem_cons_zero] at r0' r1' r2'
        simp only [List.length_append, List.length_cons, List.length_nil, Nat.zero_add] at HO
        have HQ1 := mz (HQ.out q (by simp))
        have ho9 : o.length ≤ 900000 := by have := HN9.out; simp at this; omega
        have HGR := mz hgr
        go_enter Try.func86, Try.ntmps86
        go_upto_region 6 with ((with_reducible refine gate_dst (N := 3) rfl ?_); refine bx 3 #[.int .i64 p.f0, .string p.f1, .string p.f2] 76 ?_; intro g3 hg w1 hbox hb1; have HG3 := mz hg; have HB1 := mz hb1; have K3 := mz hbox; have HO1 := mz (HO.out.below hb1); obtain ⟨x0, x1, x2⟩ := cells3 hbox; clear hg hbox hb1)
        have r0 := cell_step r0' HB1.out
        have r1 := cell_step r1' HB1.out
        have r2 := cell_step r2' HB1.out
        clear r0' r1' r2' x0 x1 x2
        obtain ⟨q0, q1, q2, q3⟩ := HQ1.out
        go_upto_region 8 with ((with_reducible refine gate_dst (N := 6) rfl ?_); refine bx 6 #[.int .i64 0, .string ⟨#[]⟩, .string ⟨#[]⟩] 76 ?_; intro g6 hg w2 hbox hb1; have HG6 := mz hg; have HB2 := mz hb1; have K6 := mz hbox; have HO2 := mz (HO1.out.below hb1); have K3' := mz (blk_below K3.out hb1); have v0 := cell_step r0 hb1; have v1 := cell_step r1 hb1; have v2 := cell_step r2 hb1; obtain ⟨t0, t1, t2⟩ := cells3 hbox; obtain ⟨t3, t4, t5⟩ := froz3 hbox; clear hg hbox hb1 r0 r1 r2)
        have M6 := mz (fillP K6.out rfl q.f0 q.f1 q.f2)
        have B3 := mz (belowP (Below.refl w1.heap.size w2) (Nat.le_of_eq HG6.out.symm) (.int .i64 q.f0) (.string q.f1) (.string q.f2))
        have HB3 := mz (below_step HB1.out (HB2.out.trans B3.out))
        have HO3 := mz (HO1.out.below (HB2.out.trans B3.out))
        have M3 := mz (blk_below K3.out (HB2.out.trans B3.out))
        clear v0 v1 v2 t0 t1 t2 t3 t4 t5 K6 K3' K3 B3 HO2
        generalize (((w2.setCell ⟨g6, 0, none⟩ (.int .i64 q.f0)).setCell ⟨g6, 1, none⟩ (.string q.f1)).setCell ⟨g6, 2, none⟩ (.string q.f2)) = w3 at M6 HB3 HO3 M3 ⊢
        obtain ⟨x0, x1, x2⟩ := cells3 M3.out
        obtain ⟨t0, t1, t2⟩ := cells3 M6.out
        go_upto_region 9 with fail
        clear x0 x1 x2 t0 t1 t2
        obtain ⟨gr', cap', e, _, rr0, rr1, rr2, rf⟩ := row_at HO3.out o.length (by simp)
        injection e with e e2 e3
        clear e2 e3
        injection e with e
        injection e with e
        subst e
        simp only [List.getElem_append_right (Nat.le_refl o.length), Nat.sub_self, List.getElem_cons_zero] at rr0 rr1 rr2
        have c0 := rr0
        have FZ := mz rf
        clear rr0 rr1 rr2 rf
        obtain ⟨ob, hob⟩ : ∃ ob, w3.heap[gr]? = some ob := ⟨_, Array.getElem?_eq_getElem (by have := HGR.out; have := HB3.out.size; omega)⟩
        have HOB := mz hob
        clear hob
        have hwi : IntKind.i64.wrap (o.length : Int) = (o.length : Int) := by rw [i64_w, w64 (by omega) (by omega)]
        have hwl : (o.length : Int) < (o.length : Int) + 1 := by omega
        have hwl2 : (o.length : Int) < (o.length : Int) + 2 := by omega
        have hw0 : (0 : Int) ≤ (o.length : Int) := by omega
        have hwv : IntKind.i64.wrap (q.f0 + p.f0) = q.f0 + p.f0 := by have := HPB.out; rw [i64_w, w64 (by omega) (by omega)]
        have F : ∀ W' : World, (W'.heap[gr]? = some ob ∧ W'.heap[g3]? = some (.cells #[.int .i64 p.f0, .string p.f1, .string p.f2] 76 (0, 0))) → (W'.cell? ⟨gr, o.length * 3, none⟩ = some (.int .i64 q.f0)) ∧ (W'.cell? ⟨g3, 0, none⟩ = some (.int .i64 p.f0)) := fun W' hb => ⟨(show W'.cell? _ = w3.cell? _ by unfold World.cell?; rw [hb.1, HOB.out]).trans c0, (blk_cell hb.2 0).trans rfl⟩
        refine wp_region_last_drew (ds := [11]) (S := fun W' => W'.heap[gr]? = some ob ∧ W'.heap[g3]? = some (.cells #[.int .i64 p.f0, .string p.f1, .string p.f2] 76 (0, 0))) (by kernel_rfl) ⟨HOB.out, M3.out⟩ (fun hH => ?_)
        refine' yT 0 F ?_
        refine' yT 1 F ?_
        refine' yT 2 F ?_
        refine' yT 3 F ?_
        refine' yT 4 F ?_
        refine' yT 5 F ?_
        refine' yT 6 F ?_
        refine' yT 7 F ?_
        refine' yT 8 F ?_
        refine' yT 9 F ?_
        refine' yT 10 F ?_
        have cz : w3.drew.cell? ⟨gr, o.length * 3, none⟩ = some (.int .i64 q.f0) := c0
        have fz : w3.drew.frozen? ⟨gr, o.length * 3, none⟩ = false := FZ.out _
        refine' yL 11 (w1 := w3.drew.setCell ⟨gr, o.length * 3, none⟩ (.int .i64 (q.f0 + p.f0))) ?_
        refine done_ (by kernel_rfl) ?_
        have AP := mz (row_put (w := w3.drew) (base := base) (n := o.length + 1) (cap := cap) (L := (o ++ [q])) HO3.out o.length (by simp) 0 (by omega) (.int .i64 (q.f0 + p.f0)) ⟨q.f0 + p.f0, q.f1, q.f2⟩ (by simp [cellsP]))
        clear hH F cz fz c0
        generalize w3.drew.setCell ⟨gr, o.length * 3, none⟩ (.int .i64 (q.f0 + p.f0)) = w4 at AP ⊢
        go_wp2_with fail
        go_ret
        refine ⟨_, rfl, ?_⟩
        rw [HV.out, ← set_last o q]
        exact ⟨AP.out.1, (AStep.of_below HB3.out HS.out).trans ((AStep.of_below (below_drew (Below.refl _ _)) (Nat.le_trans HS.out HB3.out.size)).trans AP.out.2)⟩
      have hv : addL (o ++ [q]) p = o ++ [q] ++ [p] := by rw [hs, if_neg (by rintro ⟨_, h⟩; exact hq h), if_neg (by rintro ⟨h, _⟩; exact h y2), if_neg (by rintro ⟨h, _⟩; exact h y1), if_neg (by rintro ⟨h, _⟩; exact h y1)]
      have HV := mz hv
      obtain ⟨i0, hi, hz0, hz1, hz2⟩ := info_parts info76
      have HI := mz hi
      have HZ0 := mz hz0
      have HZ1 := mz hz1
      have HZ2 := mz hz2
      clear hi hz0 hz1 hz2
      clear hv hs hz hp y1 y2
      obtain ⟨gr, cap, rfl, hgr, r0', r1', r2', _⟩ := row_at HO.out o.length (by simp)
      simp only [List.getElem_append_right (Nat.le_refl o.length), Nat.sub_self, List.getElem_cons_zero] at r0' r1' r2'
      simp only [List.length_append, List.length_cons, List.length_nil, Nat.zero_add] at HO
      have HQ1 := mz (HQ.out q (by simp))
      have ho9 : o.length ≤ 900000 := by have := HN9.out; simp at this; omega
      have HGR := mz hgr
      go_enter Try.func86, Try.ntmps86
      go_upto_region 6 with ((with_reducible refine gate_dst (N := 3) rfl ?_); refine bx 3 #[.int .i64 p.f0, .string p.f1, .string p.f2] 76 ?_; intro g3 hg w1 hbox hb1; have HG3 := mz hg; have HB1 := mz hb1; have K3 := mz hbox; have HO1 := mz (HO.out.below hb1); obtain ⟨x0, x1, x2⟩ := cells3 hbox; clear hg hbox hb1)
      have r0 := cell_step r0' HB1.out
      have r1 := cell_step r1' HB1.out
      have r2 := cell_step r2' HB1.out
      clear r0' r1' r2' x0 x1 x2
      obtain ⟨q0, q1, q2, q3⟩ := HQ1.out
      go_upto_region 8 with ((with_reducible refine gate_dst (N := 6) rfl ?_); refine bx 6 #[.int .i64 0, .string ⟨#[]⟩, .string ⟨#[]⟩] 76 ?_; intro g6 hg w2 hbox hb1; have HG6 := mz hg; have HB2 := mz hb1; have K6 := mz hbox; have HO2 := mz (HO1.out.below hb1); have K3' := mz (blk_below K3.out hb1); have v0 := cell_step r0 hb1; have v1 := cell_step r1 hb1; have v2 := cell_step r2 hb1; obtain ⟨t0, t1, t2⟩ := cells3 hbox; obtain ⟨t3, t4, t5⟩ := froz3 hbox; clear hg hbox hb1 r0 r1 r2)
      have M6 := mz (fillP K6.out rfl q.f0 q.f1 q.f2)
      have B3 := mz (belowP (Below.refl w1.heap.size w2) (Nat.le_of_eq HG6.out.symm) (.int .i64 q.f0) (.string q.f1) (.string q.f2))
      have HB3 := mz (below_step HB1.out (HB2.out.trans B3.out))
      have HO3 := mz (HO1.out.below (HB2.out.trans B3.out))
      have M3 := mz (blk_below K3.out (HB2.out.trans B3.out))
      clear v0 v1 v2 t0 t1 t2 t3 t4 t5 K6 K3' K3 B3 HO2
      generalize (((w2.setCell ⟨g6, 0, none⟩ (.int .i64 q.f0)).setCell ⟨g6, 1, none⟩ (.string q.f1)).setCell ⟨g6, 2, none⟩ (.string q.f2)) = w3 at M6 HB3 HO3 M3 ⊢
      obtain ⟨x0, x1, x2⟩ := cells3 M3.out
      obtain ⟨t0, t1, t2⟩ := cells3 M6.out
      go_wp2_with (at_builtin; refine wpList_append_lies _ rfl (.tmp 36) (.tmp 38) 34 rfl base 76 i0 (.agg #[.int .i64 0, .string ⟨#[]⟩, .string ⟨#[]⟩]) 3 40 Try.underlying34 HI.out HZ0.out HZ1.out HZ2.out rfl (by decide) (.slice (some ⟨gr, 0, none⟩) (o.length + 1) cap) (o ++ [q]).length ((o ++ [q]).flatMap cellsP) (by rfl) (own_alloc HO3.out _) ⟨w3.heap.size, 0, none⟩ 1 1 (cellsP p) (by rfl) rfl (cells_new _ _ _) (fun u hu => cells_one [p] u (by simpa using hu)) (by omega) (by unfold maxLen; have := HN9.out; omega) (by have := HN9.out; omega) (Nat.le_trans (Nat.le_trans HS.out HB3.out.size) (by simp)) _ rfl ?_; intro g1 cap1 w4 ho hg hat hlt; have HAP := mz (add_app HO3.out (Nat.le_trans HS.out HB3.out.size) ho hg (hat.imp id (fun h => h.trans (by simp)))); clear ho hg hat hlt)
      go_ret
      refine ⟨_, rfl, ?_⟩
      rw [HV.out]
      skip
      have hx := HAP.out
      simp only [List.length_append, List.length_cons, List.length_nil, Nat.zero_add] at hx
      exact ⟨hx.1, (AStep.of_below HB3.out HS.out).trans hx.2⟩
    have z0 : p.f0 = 0 := by omega
    by_cases y1 : p.f1.size = 0
    · have hb2 : p.f2.size ≠ 0 := fun e => hz ⟨z0, y1, e⟩
      have hf0 : (p.f0 == 0) = true := by rw [z0]; rfl
      have hfg : ¬ 0 < p.f0 := by omega
      have l_pf1 : p.f1.toList = [] := (toList_nil _).2 y1
      have e_pf1 : p.f1.toList.isEmpty = true := by rw [l_pf1]; rfl
      have l_pf2 : ¬ (p.f2.toList = []) := fun e => hb2 ((toList_nil _).1 e)
      have e_pf2 : p.f2.toList.isEmpty = false := by cases hh : p.f2.toList with | nil => exact absurd hh l_pf2 | cons _ _ => rfl
      by_cases hq : q.f2.size ≠ 0
      · have hv : addL (o ++ [q]) p = o ++ [⟨q.f0, q.f1, q.f2 ++ p.f2⟩] := by rw [hs, if_neg (by rintro ⟨h, _⟩; exact hfg h), if_pos ⟨hb2, hq⟩]
        have HV := mz hv
        have l_qf2 : ¬ (q.f2.toList = []) := fun e => hq ((toList_nil _).1 e)
        have e_qf2 : q.f2.toList.isEmpty = false := by cases hh : q.f2.toList with | nil => exact absurd hh l_qf2 | cons _ _ => rfl
        have hcc : ¬ 9223372036854775807 < q.f2.size + p.f2.size := by have := (HQ.out q (by simp)).2.2.2; omega
        clear hv hs hz hp y1 hb2 hq z0
        obtain ⟨gr, cap, rfl, hgr, r0', r1', r2', _⟩ := row_at HO.out o.length (by simp)
        simp only [List.getElem_append_right (Nat.le_refl o.length), Nat.sub_self, List.getElem_cons_zero] at r0' r1' r2'
        simp only [List.length_append, List.length_cons, List.length_nil, Nat.zero_add] at HO
        have HQ1 := mz (HQ.out q (by simp))
        have ho9 : o.length ≤ 900000 := by have := HN9.out; simp at this; omega
        have HGR := mz hgr
        go_enter Try.func86, Try.ntmps86
        go_upto_region 6 with ((with_reducible refine gate_dst (N := 3) rfl ?_); refine bx 3 #[.int .i64 p.f0, .string p.f1, .string p.f2] 76 ?_; intro g3 hg w1 hbox hb1; have HG3 := mz hg; have HB1 := mz hb1; have K3 := mz hbox; have HO1 := mz (HO.out.below hb1); obtain ⟨x0, x1, x2⟩ := cells3 hbox; clear hg hbox hb1)
        have r0 := cell_step r0' HB1.out
        have r1 := cell_step r1' HB1.out
        have r2 := cell_step r2' HB1.out
        clear r0' r1' r2' x0 x1 x2
        obtain ⟨q0, q1, q2, q3⟩ := HQ1.out
        go_upto_region 8 with ((with_reducible refine gate_dst (N := 6) rfl ?_); refine bx 6 #[.int .i64 0, .string ⟨#[]⟩, .string ⟨#[]⟩] 76 ?_; intro g6 hg w2 hbox hb1; have HG6 := mz hg; have HB2 := mz hb1; have K6 := mz hbox; have HO2 := mz (HO1.out.below hb1); have K3' := mz (blk_below K3.out hb1); have v0 := cell_step r0 hb1; have v1 := cell_step r1 hb1; have v2 := cell_step r2 hb1; obtain ⟨t0, t1, t2⟩ := cells3 hbox; obtain ⟨t3, t4, t5⟩ := froz3 hbox; clear hg hbox hb1 r0 r1 r2)
        have M6 := mz (fillP K6.out rfl q.f0 q.f1 q.f2)
        have B3 := mz (belowP (Below.refl w1.heap.size w2) (Nat.le_of_eq HG6.out.symm) (.int .i64 q.f0) (.string q.f1) (.string q.f2))
        have HB3 := mz (below_step HB1.out (HB2.out.trans B3.out))
        have HO3 := mz (HO1.out.below (HB2.out.trans B3.out))
        have M3 := mz (blk_below K3.out (HB2.out.trans B3.out))
        clear v0 v1 v2 t0 t1 t2 t3 t4 t5 K6 K3' K3 B3 HO2
        generalize (((w2.setCell ⟨g6, 0, none⟩ (.int .i64 q.f0)).setCell ⟨g6, 1, none⟩ (.string q.f1)).setCell ⟨g6, 2, none⟩ (.string q.f2)) = w3 at M6 HB3 HO3 M3 ⊢
        obtain ⟨x0, x1, x2⟩ := cells3 M3.out
        obtain ⟨t0, t1, t2⟩ := cells3 M6.out
        go_upto_region 11 with fail
        clear x0 x1 x2 t0 t1 t2
        obtain ⟨gr', cap', e, _, rr0, rr1, rr2, rf⟩ := row_at HO3.out o.length (by simp)
        injection e with e e2 e3
        clear e2 e3
        injection e with e
        injection e with e
        subst e
        simp only [List.getElem_append_right (Nat.le_refl o.length), Nat.sub_self, List.getElem_cons_zero] at rr0 rr1 rr2
        have c0 := rr2
        have FZ := mz rf
        clear rr0 rr1 rr2 rf
        obtain ⟨ob, hob⟩ : ∃ ob, w3.heap[gr]? = some ob := ⟨_, Array.getElem?_eq_getElem (by have := HGR.out; have := HB3.out.size; omega)⟩
        have HOB := mz hob
        clear hob
        have hwi : IntKind.i64.wrap (o.length : Int) = (o.length : Int) := by rw [i64_w, w64 (by omega) (by omega)]
        have hwl : (o.length : Int) < (o.length : Int) + 1 := by omega
        have hwl2 : (o.length : Int) < (o.length : Int) + 2 := by omega
        have hw0 : (0 : Int) ≤ (o.length : Int) := by omega
        have F : ∀ W' : World, (W'.heap[gr]? = some ob ∧ W'.heap[g3]? = some (.cells #[.int .i64 p.f0, .string p.f1, .string p.f2] 76 (0, 0))) → (W'.cell? ⟨gr, o.length * 3 + 2, none⟩ = some (.string q.f2)) ∧ (W'.cell? ⟨g3, 2, none⟩ = some (.string p.f2)) := fun W' hb => ⟨(show W'.cell? _ = w3.cell? _ by unfold World.cell?; rw [hb.1, HOB.out]).trans c0, (blk_cell hb.2 2).trans rfl⟩
        refine wp_region_last_drew (ds := [11]) (S := fun W' => W'.heap[gr]? = some ob ∧ W'.heap[g3]? = some (.cells #[.int .i64 p.f0, .string p.f1, .string p.f2] 76 (0, 0))) (by kernel_rfl) ⟨HOB.out, M3.out⟩ (fun hH => ?_)
        refine' yT 0 F ?_
        refine' yT 1 F ?_
        refine' yT 2 F ?_
        refine' yT 3 F ?_
        refine' yT 4 F ?_
        refine' yT 5 F ?_
        refine' yT 6 F ?_
        refine' yT 7 F ?_
        refine' yT 8 F ?_
        refine' yT 9 F ?_
        refine' yT 10 F ?_
        have cz : w3.drew.cell? ⟨gr, o.length * 3 + 2, none⟩ = some (.string q.f2) := c0
        have fz : w3.drew.frozen? ⟨gr, o.length * 3 + 2, none⟩ = false := FZ.out _
        refine' yL 11 (w1 := w3.drew.setCell ⟨gr, o.length * 3 + 2, none⟩ (.string (q.f2 ++ p.f2))) ?_
        refine done_ (by kernel_rfl) ?_
        have AP := mz (row_put (w := w3.drew) (base := base) (n := o.length + 1) (cap := cap) (L := (o ++ [q])) HO3.out o.length (by simp) 2 (by omega) (.string (q.f2 ++ p.f2)) ⟨q.f0, q.f1, q.f2 ++ p.f2⟩ (by simp [cellsP]))
        clear hH F cz fz c0
        generalize w3.drew.setCell ⟨gr, o.length * 3 + 2, none⟩ (.string (q.f2 ++ p.f2)) = w4 at AP ⊢
        go_wp2_with fail
        go_ret
        refine ⟨_, rfl, ?_⟩
        rw [HV.out, ← set_last o q]
        exact ⟨AP.out.1, (AStep.of_below HB3.out HS.out).trans ((AStep.of_below (below_drew (Below.refl _ _)) (Nat.le_trans HS.out HB3.out.size)).trans AP.out.2)⟩
      have hq0 : q.f2.size = 0 := by omega
      have l_qf2 : q.f2.toList = [] := (toList_nil _).2 hq0
      have e_qf2 : q.f2.toList.isEmpty = true := by rw [l_qf2]; rfl
      have hv : addL (o ++ [q]) p = o ++ [q] ++ [p] := by rw [hs, if_neg (by rintro ⟨h, _⟩; exact hfg h), if_neg (by rintro ⟨_, h⟩; exact hq h), if_neg (by rintro ⟨h, _⟩; exact h y1), if_neg (by rintro ⟨h, _⟩; exact h y1)]
      have HV := mz hv
      obtain ⟨i0, hi, hz0, hz1, hz2⟩ := info_parts info76
      have HI := mz hi
      have HZ0 := mz hz0
      have HZ1 := mz hz1
      have HZ2 := mz hz2
      clear hi hz0 hz1 hz2
      clear hv hs hz hp y1 hb2 hq hq0 z0
      obtain ⟨gr, cap, rfl, hgr, r0', r1', r2', _⟩ := row_at HO.out o.length (by simp)
      simp only [List.getElem_append_right (Nat.le_refl o.length), Nat.sub_self, List.getElem_cons_zero] at r0' r1' r2'
      simp only [List.length_append, List.length_cons, List.length_nil, Nat.zero_add] at HO
      have HQ1 := mz (HQ.out q (by simp))
      have ho9 : o.length ≤ 900000 := by have := HN9.out; simp at this; omega
      have HGR := mz hgr
      go_enter Try.func86, Try.ntmps86
      go_upto_region 6 with ((with_reducible refine gate_dst (N := 3) rfl ?_); refine bx 3 #[.int .i64 p.f0, .string p.f1, .string p.f2] 76 ?_; intro g3 hg w1 hbox hb1; have HG3 := mz hg; have HB1 := mz hb1; have K3 := mz hbox; have HO1 := mz (HO.out.below hb1); obtain ⟨x0, x1, x2⟩ := cells3 hbox; clear hg hbox hb1)
      have r0 := cell_step r0' HB1.out
      have r1 := cell_step r1' HB1.out
      have r2 := cell_step r2' HB1.out
      clear r0' r1' r2' x0 x1 x2
      obtain ⟨q0, q1, q2, q3⟩ := HQ1.out
      go_upto_region 8 with ((with_reducible refine gate_dst (N := 6) rfl ?_); refine bx 6 #[.int .i64 0, .string ⟨#[]⟩, .string ⟨#[]⟩] 76 ?_; intro g6 hg w2 hbox hb1; have HG6 := mz hg; have HB2 := mz hb1; have K6 := mz hbox; have HO2 := mz (HO1.out.below hb1); have K3' := mz (blk_below K3.out hb1); have v0 := cell_step r0 hb1; have v1 := cell_step r1 hb1; have v2 := cell_step r2 hb1; obtain ⟨t0, t1, t2⟩ := cells3 hbox; obtain ⟨t3, t4, t5⟩ := froz3 hbox; clear hg hbox hb1 r0 r1 r2)
      have M6 := mz (fillP K6.out rfl q.f0 q.f1 q.f2)
      have B3 := mz (belowP (Below.refl w1.heap.size w2) (Nat.le_of_eq HG6.out.symm) (.int .i64 q.f0) (.string q.f1) (.string q.f2))
      have HB3 := mz (below_step HB1.out (HB2.out.trans B3.out))
      have HO3 := mz (HO1.out.below (HB2.out.trans B3.out))
      have M3 := mz (blk_below K3.out (HB2.out.trans B3.out))
      clear v0 v1 v2 t0 t1 t2 t3 t4 t5 K6 K3' K3 B3 HO2
      generalize (((w2.setCell ⟨g6, 0, none⟩ (.int .i64 q.f0)).setCell ⟨g6, 1, none⟩ (.string q.f1)).setCell ⟨g6, 2, none⟩ (.string q.f2)) = w3 at M6 HB3 HO3 M3 ⊢
      obtain ⟨x0, x1, x2⟩ := cells3 M3.out
      obtain ⟨t0, t1, t2⟩ := cells3 M6.out
      go_wp2_with (at_builtin; refine wpList_append_lies _ rfl (.tmp 36) (.tmp 38) 34 rfl base 76 i0 (.agg #[.int .i64 0, .string ⟨#[]⟩, .string ⟨#[]⟩]) 3 40 Try.underlying34 HI.out HZ0.out HZ1.out HZ2.out rfl (by decide) (.slice (some ⟨gr, 0, none⟩) (o.length + 1) cap) (o ++ [q]).length ((o ++ [q]).flatMap cellsP) (by rfl) (own_alloc HO3.out _) ⟨w3.heap.size, 0, none⟩ 1 1 (cellsP p) (by rfl) rfl (cells_new _ _ _) (fun u hu => cells_one [p] u (by simpa using hu)) (by omega) (by unfold maxLen; have := HN9.out; omega) (by have := HN9.out; omega) (Nat.le_trans (Nat.le_trans HS.out HB3.out.size) (by simp)) _ rfl ?_; intro g1 cap1 w4 ho hg hat hlt; have HAP := mz (add_app HO3.out (Nat.le_trans HS.out HB3.out.size) ho hg (hat.imp id (fun h => h.trans (by simp)))); clear ho hg hat hlt)
      go_ret
      refine ⟨_, rfl, ?_⟩
      rw [HV.out]
      skip
      have hx := HAP.out
      simp only [List.length_append, List.length_cons, List.length_nil, Nat.zero_add] at hx
      exact ⟨hx.1, (AStep.of_below HB3.out HS.out).trans hx.2⟩
    · have hb1 : p.f1.size ≠ 0 := y1
      have hf0 : (p.f0 == 0) = true := by rw [z0]; rfl
      have hfg : ¬ 0 < p.f0 := by omega
      have l_pf1 : ¬ (p.f1.toList = []) := fun e => hb1 ((toList_nil _).1 e)
      have e_pf1 : p.f1.toList.isEmpty = false := by cases hh : p.f1.toList with | nil => exact absurd hh l_pf1 | cons _ _ => rfl
      have y2 := hp.2.2 hb1
      have l_pf2 : p.f2.toList = [] := (toList_nil _).2 y2
      have e_pf2 : p.f2.toList.isEmpty = true := by rw [l_pf2]; rfl
      by_cases hq : q.f1.size ≠ 0
      · have hv : addL (o ++ [q]) p = o ++ [⟨q.f0, q.f1 ++ p.f1, q.f2⟩] := by rw [hs, if_neg (by rintro ⟨h, _⟩; exact hfg h), if_neg (by rintro ⟨h, _⟩; exact h y2), if_pos ⟨hb1, hq⟩]
        have HV := mz hv
        have l_qf1 : ¬ (q.f1.toList = []) := fun e => hq ((toList_nil _).1 e)
        have e_qf1 : q.f1.toList.isEmpty = false := by cases hh : q.f1.toList with | nil => exact absurd hh l_qf1 | cons _ _ => rfl
        have hcc : ¬ 9223372036854775807 < q.f1.size + p.f1.size := by have := (HQ.out q (by simp)).2.2.1; omega
        clear hv hs hz hp y2 hb1 hq z0
        obtain ⟨gr, cap, rfl, hgr, r0', r1', r2', _⟩ := row_at HO.out o.length (by simp)
        simp only [List.getElem_append_right (Nat.le_refl o.length), Nat.sub_self, List.getElem_cons_zero] at r0' r1' r2'
        simp only [List.length_append, List.length_cons, List.length_nil, Nat.zero_add] at HO
        have HQ1 := mz (HQ.out q (by simp))
        have ho9 : o.length ≤ 900000 := by have := HN9.out; simp at this; omega
        have HGR := mz hgr
        go_enter Try.func86, Try.ntmps86
        go_upto_region 6 with ((with_reducible refine gate_dst (N := 3) rfl ?_); refine bx 3 #[.int .i64 p.f0, .string p.f1, .string p.f2] 76 ?_; intro g3 hg w1 hbox hb1; have HG3 := mz hg; have HB1 := mz hb1; have K3 := mz hbox; have HO1 := mz (HO.out.below hb1); obtain ⟨x0, x1, x2⟩ := cells3 hbox; clear hg hbox hb1)
        have r0 := cell_step r0' HB1.out
        have r1 := cell_step r1' HB1.out
        have r2 := cell_step r2' HB1.out
        clear r0' r1' r2' x0 x1 x2
        obtain ⟨q0, q1, q2, q3⟩ := HQ1.out
        go_upto_region 8 with ((with_reducible refine gate_dst (N := 6) rfl ?_); refine bx 6 #[.int .i64 0, .string ⟨#[]⟩, .string ⟨#[]⟩] 76 ?_; intro g6 hg w2 hbox hb1; have HG6 := mz hg; have HB2 := mz hb1; have K6 := mz hbox; have HO2 := mz (HO1.out.below hb1); have K3' := mz (blk_below K3.out hb1); have v0 := cell_step r0 hb1; have v1 := cell_step r1 hb1; have v2 := cell_step r2 hb1; obtain ⟨t0, t1, t2⟩ := cells3 hbox; obtain ⟨t3, t4, t5⟩ := froz3 hbox; clear hg hbox hb1 r0 r1 r2)
        have M6 := mz (fillP K6.out rfl q.f0 q.f1 q.f2)
        have B3 := mz (belowP (Below.refl w1.heap.size w2) (Nat.le_of_eq HG6.out.symm) (.int .i64 q.f0) (.string q.f1) (.string q.f2))
        have HB3 := mz (below_step HB1.out (HB2.out.trans B3.out))
        have HO3 := mz (HO1.out.below (HB2.out.trans B3.out))
        have M3 := mz (blk_below K3.out (HB2.out.trans B3.out))
        clear v0 v1 v2 t0 t1 t2 t3 t4 t5 K6 K3' K3 B3 HO2
        generalize (((w2.setCell ⟨g6, 0, none⟩ (.int .i64 q.f0)).setCell ⟨g6, 1, none⟩ (.string q.f1)).setCell ⟨g6, 2, none⟩ (.string q.f2)) = w3 at M6 HB3 HO3 M3 ⊢
        obtain ⟨x0, x1, x2⟩ := cells3 M3.out
        obtain ⟨t0, t1, t2⟩ := cells3 M6.out
        go_upto_region 13 with fail
        clear x0 x1 x2 t0 t1 t2
        obtain ⟨gr', cap', e, _, rr0, rr1, rr2, rf⟩ := row_at HO3.out o.length (by simp)
        injection e with e e2 e3
        clear e2 e3
        injection e with e
        injection e with e
        subst e
        simp only [List.getElem_append_right (Nat.le_refl o.length), Nat.sub_self, List.getElem_cons_zero] at rr0 rr1 rr2
        have c0 := rr1
        have FZ := mz rf
        clear rr0 rr1 rr2 rf
        obtain ⟨ob, hob⟩ : ∃ ob, w3.heap[gr]? = some ob := ⟨_, Array.getElem?_eq_getElem (by have := HGR.out; have := HB3.out.size; omega)⟩
        have HOB := mz hob
        clear hob
        have hwi : IntKind.i64.wrap (o.length : Int) = (o.length : Int) := by rw [i64_w, w64 (by omega) (by omega)]
        have hwl : (o.length : Int) < (o.length : Int) + 1 := by omega
        have hwl2 : (o.length : Int) < (o.length : Int) + 2 := by omega
        have hw0 : (0 : Int) ≤ (o.length : Int) := by omega
        have F : ∀ W' : World, (W'.heap[gr]? = some ob ∧ W'.heap[g3]? = some (.cells #[.int .i64 p.f0, .string p.f1, .string p.f2] 76 (0, 0))) → (W'.cell? ⟨gr, o.length * 3 + 1, none⟩ = some (.string q.f1)) ∧ (W'.cell? ⟨g3, 1, none⟩ = some (.string p.f1)) := fun W' hb => ⟨(show W'.cell? _ = w3.cell? _ by unfold World.cell?; rw [hb.1, HOB.out]).trans c0, (blk_cell hb.2 1).trans rfl⟩
        refine wp_region_last_drew (ds := [11]) (S := fun W' => W'.heap[gr]? = some ob ∧ W'.heap[g3]? = some (.cells #[.int .i64 p.f0, .string p.f1, .string p.f2] 76 (0, 0))) (by kernel_rfl) ⟨HOB.out, M3.out⟩ (fun hH => ?_)
        refine' yT 0 F ?_
        refine' yT 1 F ?_
        refine' yT 2 F ?_
        refine' yT 3 F ?_
        refine' yT 4 F ?_
        refine' yT 5 F ?_
        refine' yT 6 F ?_
        refine' yT 7 F ?_
        refine' yT 8 F ?_
        refine' yT 9 F ?_
        refine' yT 10 F ?_
        have cz : w3.drew.cell? ⟨gr, o.length * 3 + 1, none⟩ = some (.string q.f1) := c0
        have fz : w3.drew.frozen? ⟨gr, o.length * 3 + 1, none⟩ = false := FZ.out _
        refine' yL 11 (w1 := w3.drew.setCell ⟨gr, o.length * 3 + 1, none⟩ (.string (q.f1 ++ p.f1))) ?_
        refine done_ (by kernel_rfl) ?_
        have AP := mz (row_put (w := w3.drew) (base := base) (n := o.length + 1) (cap := cap) (L := (o ++ [q])) HO3.out o.length (by simp) 1 (by omega) (.string (q.f1 ++ p.f1)) ⟨q.f0, q.f1 ++ p.f1, q.f2⟩ (by simp [cellsP]))
        clear hH F cz fz c0
        generalize w3.drew.setCell ⟨gr, o.length * 3 + 1, none⟩ (.string (q.f1 ++ p.f1)) = w4 at AP ⊢
        go_wp2_with fail
        go_ret
        refine ⟨_, rfl, ?_⟩
        rw [HV.out, ← set_last o q]
        exact ⟨AP.out.1, (AStep.of_below HB3.out HS.out).trans ((AStep.of_below (below_drew (Below.refl _ _)) (Nat.le_trans HS.out HB3.out.size)).trans AP.out.2)⟩
      have hq1 : q.f1.size = 0 := by omega
      have l_qf1 : q.f1.toList = [] := (toList_nil _).2 hq1
      have e_qf1 : q.f1.toList.isEmpty = true := by rw [l_qf1]; rfl
      by_cases hq2 : q.f2.size ≠ 0
      · have l_qf2 : ¬ (q.f2.toList = []) := fun e => hq2 ((toList_nil _).1 e)
        have e_qf2 : q.f2.toList.isEmpty = false := by cases hh : q.f2.toList with | nil => exact absurd hh l_qf2 | cons _ _ => rfl
        rcases List.eq_nil_or_concat o with rfl | ⟨o, r, rfl⟩
        · have hv : addL (([] : List Part) ++ [q]) p = ([] : List Part) ++ [p] ++ [q] := by rw [hs, if_neg (by rintro ⟨h, _⟩; exact hfg h), if_neg (by rintro ⟨h, _⟩; exact h y2), if_neg (by rintro ⟨_, h⟩; exact hq h), if_pos ⟨hb1, hq2⟩]; simp
          have HV := mz hv
          obtain ⟨i0, hi, hz0, hz1, hz2⟩ := info_parts info76
          have HI := mz hi
          have HZ0 := mz hz0
          have HZ1 := mz hz1
          have HZ2 := mz hz2
          clear hi hz0 hz1 hz2
          clear hv hs hz hp y2 hb1 hq hq1 hq2 z0
          obtain ⟨gr, cap, rfl, hgr, r0', r1', r2', _⟩ := row_at HO.out ([] : List Part).length (by simp)
          simp only [List.getElem_append_right (Nat.le_refl ([] : List Part).length), Nat.sub_self, List.getElem_cons_zero, List.length_append, List.length_cons, List.length_nil, Nat.zero_add, Nat.zero_mul] at r0' r1' r2'
          simp only [List.length_append, List.length_cons, List.length_nil, Nat.zero_add] at HO
          have HQ1 := mz (HQ.out q (by simp))
          have ho9 : 0 ≤ 900000 := by have := HN9.out; simp at this; omega
          have HGR := mz hgr
          go_enter Try.func86, Try.ntmps86
          go_upto_region 6 with ((with_reducible refine gate_dst (N := 3) rfl ?_); refine bx 3 #[.int .i64 p.f0, .string p.f1, .string p.f2] 76 ?_; intro g3 hg w1 hbox hb1; have HG3 := mz hg; have HB1 := mz hb1; have K3 := mz hbox; have HO1 := mz (HO.out.below hb1); obtain ⟨x0, x1, x2⟩ := cells3 hbox; clear hg hbox hb1)
          have r0 := cell_step r0' HB1.out
          have r1 := cell_step r1' HB1.out
          have r2 := cell_step r2' HB1.out
          clear r0' r1' r2' x0 x1 x2
          obtain ⟨q0, q1, q2, q3⟩ := HQ1.out
          go_upto_region 8 with ((with_reducible refine gate_dst (N := 6) rfl ?_); refine bx 6 #[.int .i64 0, .string ⟨#[]⟩, .string ⟨#[]⟩] 76 ?_; intro g6 hg w2 hbox hb1; have HG6 := mz hg; have HB2 := mz hb1; have K6 := mz hbox; have HO2 := mz (HO1.out.below hb1); have K3' := mz (blk_below K3.out hb1); have v0 := cell_step r0 hb1; have v1 := cell_step r1 hb1; have v2 := cell_step r2 hb1; obtain ⟨t0, t1, t2⟩ := cells3 hbox; obtain ⟨t3, t4, t5⟩ := froz3 hbox; clear hg hbox hb1 r0 r1 r2)
          have M6 := mz (fillP K6.out rfl q.f0 q.f1 q.f2)
          have B3 := mz (belowP (Below.refl w1.heap.size w2) (Nat.le_of_eq HG6.out.symm) (.int .i64 q.f0) (.string q.f1) (.string q.f2))
          have HB3 := mz (below_step HB1.out (HB2.out.trans B3.out))
          have HO3 := mz (HO1.out.below (HB2.out.trans B3.out))
          have M3 := mz (blk_below K3.out (HB2.out.trans B3.out))
          clear v0 v1 v2 t0 t1 t2 t3 t4 t5 K6 K3' K3 B3 HO2
          generalize (((w2.setCell ⟨g6, 0, none⟩ (.int .i64 q.f0)).setCell ⟨g6, 1, none⟩ (.string q.f1)).setCell ⟨g6, 2, none⟩ (.string q.f2)) = w3 at M6 HB3 HO3 M3 ⊢
          obtain ⟨x0, x1, x2⟩ := cells3 M3.out
          obtain ⟨t0, t1, t2⟩ := cells3 M6.out
          have hgr6 : g6 ≠ gr := fun e => by have h1 := HGR.out; have h2 := HG6.out; have h3 := HB1.out.size; omega
          have hgr3 : g3 ≠ gr := fun e => by have h1 := HGR.out; have h2 := HG3.out; omega
          go_upto_region 18 with fail
          obtain ⟨gr', cap', e, _, rr0, rr1, rr2, rf⟩ := row_at HO3.out ([] : List Part).length (by simp)
          injection e with e e2 e3
          clear e2 e3
          injection e with e
          injection e with e
          subst e
          simp only [List.getElem_append_right (Nat.le_refl ([] : List Part).length), Nat.sub_self, List.getElem_cons_zero, List.length_append, List.length_cons, List.length_nil, Nat.zero_add, Nat.zero_mul] at rr0 rr1 rr2
          have f0 := rf (0)
          have f1 := rf (1)
          have f2 := rf (2)
          clear rf
          go_upto_region 19 with fail
          have ap := row_put3 (n := 0 + 1) (cap := cap) HO3.out (Nat.le_trans HS.out HB3.out.size) ([] : List Part).length (by simp) p
          rw [set_last] at ap
          simp only [List.length_append, List.length_cons, List.length_nil, Nat.zero_add, Nat.zero_mul] at ap
          have AP := mz ap
          clear ap rr0 rr1 rr2 f0 f1 f2 x0 x1 x2 t0 t1 t2
          generalize (((w3.setCell ⟨gr, 0, none⟩ (.int .i64 p.f0)).setCell ⟨gr, 1, none⟩ (.string p.f1)).setCell ⟨gr, 2, none⟩ (.string p.f2)) = w4 at AP ⊢
          have M6' := mz ((AP.out.2.kept.2 g6 (blk_lt M6.out) (fun e => by injection e with e; exact hgr6 e)).trans M6.out)
          obtain ⟨t0, t1, t2⟩ := cells3 M6'.out
          have HO4 := mz AP.out.1
          have HN8 := HN9
          clear HN9
          have HN9 : Aside0 ((([] : List Part) ++ [p]).length ≤ 900000) := ⟨by have h8 := HN8.out; rw [List.length_append] at h8 ⊢; exact h8⟩
          go_wp2_with (at_builtin; refine wpList_append_lies _ rfl (.tmp 137) (.tmp 139) 34 rfl base 76 i0 (.agg #[.int .i64 0, .string ⟨#[]⟩, .string ⟨#[]⟩]) 3 40 Try.underlying34 HI.out HZ0.out HZ1.out HZ2.out rfl (by decide) (.slice (some ⟨gr, 0, none⟩) (0 + 1) cap) (([] : List Part) ++ [p]).length ((([] : List Part) ++ [p]).flatMap cellsP) (by rfl) (own_alloc HO4.out _) ⟨w4.heap.size, 0, none⟩ 1 1 (cellsP q) (by rfl) rfl (cells_new _ _ _) (fun u hu => cells_one [q] u (by simpa using hu)) (by omega) (by unfold maxLen; have := HN9.out; omega) (by have := HN9.out; omega) (Nat.le_trans (Nat.le_trans (Nat.le_trans HS.out HB3.out.size) AP.out.2.below.size) (by simp)) _ rfl ?_; intro g1 cap1 w5 ho hg hat hlt; have HAP := mz (add_app HO4.out (Nat.le_trans (Nat.le_trans HS.out HB3.out.size) AP.out.2.below.size) ho hg (hat.imp id (fun h => h.trans (by simp)))); clear ho hg hat hlt)
          go_ret
          refine ⟨_, rfl, ?_⟩
          have e2 : addL [q] p = ([] : List Part) ++ [p] ++ [q] := HV.out
          rw [e2]
          have hx := HAP.out
          simp only [List.length_append, List.length_cons, List.length_nil, Nat.zero_add] at hx
          exact ⟨hx.1, (AStep.of_below HB3.out HS.out).trans (AP.out.2.trans hx.2)⟩
        rw [List.concat_eq_append] at *
        by_cases hr : r.f1.size ≠ 0
        · have hv : addL (o ++ [r] ++ [q]) p = o ++ [⟨r.f0, r.f1 ++ p.f1, r.f2⟩, q] := by rw [hs, if_neg (by rintro ⟨h, _⟩; exact hfg h), if_neg (by rintro ⟨h, _⟩; exact h y2), if_neg (by rintro ⟨_, h⟩; exact hq h), if_pos ⟨hb1, hq2⟩]; simp; intro e; exact absurd (by rw [e]; rfl) hr
          have HV := mz hv
          have l_rf1 : ¬ (r.f1.toList = []) := fun e => hr ((toList_nil _).1 e)
          have e_rf1 : r.f1.toList.isEmpty = false := by cases hh : r.f1.toList with | nil => exact absurd hh l_rf1 | cons _ _ => rfl
          have hcc : ¬ 9223372036854775807 < r.f1.size + p.f1.size := by have := (HQ.out r (by simp)).2.2.1; omega
          clear hv hs hz hp y2 hb1 hq hq1 hq2 z0 hr
          obtain ⟨gr, cap, rfl, hgr, r0', r1', r2', _⟩ := row_at HO.out (o ++ [r]).length (by simp)
          simp only [List.getElem_append_right (Nat.le_refl (o ++ [r]).length), Nat.sub_self, List.getElem_cons_zero, List.length_append, List.length_cons, List.length_nil, Nat.zero_add, Nat.zero_mul] at r0' r1' r2'
          simp only [List.length_append, List.length_cons, List.length_nil, Nat.zero_add] at HO
          have HQ1 := mz (HQ.out q (by simp))
          have ho9 : (o.length + 1) ≤ 900000 := by have := HN9.out; simp at this; omega
          have HGR := mz hgr
          go_enter Try.func86, Try.ntmps86
          go_upto_region 6 with ((with_reducible refine gate_dst (N := 3) rfl ?_); refine bx 3 #[.int .i64 p.f0, .string p.f1, .string p.f2] 76 ?_; intro g3 hg w1 hbox hb1; have HG3 := mz hg; have HB1 := mz hb1; have K3 := mz hbox; have HO1 := mz (HO.out.below hb1); obtain ⟨x0, x1, x2⟩ := cells3 hbox; clear hg hbox hb1)
          have r0 := cell_step r0' HB1.out
          have r1 := cell_step r1' HB1.out
          have r2 := cell_step r2' HB1.out
          clear r0' r1' r2' x0 x1 x2
          obtain ⟨q0, q1, q2, q3⟩ := HQ1.out
          go_upto_region 8 with ((with_reducible refine gate_dst (N := 6) rfl ?_); refine bx 6 #[.int .i64 0, .string ⟨#[]⟩, .string ⟨#[]⟩] 76 ?_; intro g6 hg w2 hbox hb1; have HG6 := mz hg; have HB2 := mz hb1; have K6 := mz hbox; have HO2 := mz (HO1.out.below hb1); have K3' := mz (blk_below K3.out hb1); have v0 := cell_step r0 hb1; have v1 := cell_step r1 hb1; have v2 := cell_step r2 hb1; obtain ⟨t0, t1, t2⟩ := cells3 hbox; obtain ⟨t3, t4, t5⟩ := froz3 hbox; clear hg hbox hb1 r0 r1 r2)
          have M6 := mz (fillP K6.out rfl q.f0 q.f1 q.f2)
          have B3 := mz (belowP (Below.refl w1.heap.size w2) (Nat.le_of_eq HG6.out.symm) (.int .i64 q.f0) (.string q.f1) (.string q.f2))
          have HB3 := mz (below_step HB1.out (HB2.out.trans B3.out))
          have HO3 := mz (HO1.out.below (HB2.out.trans B3.out))
          have M3 := mz (blk_below K3.out (HB2.out.trans B3.out))
          clear v0 v1 v2 t0 t1 t2 t3 t4 t5 K6 K3' K3 B3 HO2
          generalize (((w2.setCell ⟨g6, 0, none⟩ (.int .i64 q.f0)).setCell ⟨g6, 1, none⟩ (.string q.f1)).setCell ⟨g6, 2, none⟩ (.string q.f2)) = w3 at M6 HB3 HO3 M3 ⊢
          obtain ⟨x0, x1, x2⟩ := cells3 M3.out
          obtain ⟨t0, t1, t2⟩ := cells3 M6.out
          obtain ⟨gr', cap', e, _, rn0, rn1, rn2, rf⟩ := row_at HO3.out o.length (by simp)
          injection e with e e2 e3
          clear e2 e3
          injection e with e
          injection e with e
          subst e
          simp only [get_mid] at rn0 rn1 rn2
          clear rn0 rn2 rf
          go_upto_region 16 with fail
          clear rn1
          clear x0 x1 x2 t0 t1 t2
          obtain ⟨gr', cap', e, _, rr0, rr1, rr2, rf⟩ := row_at HO3.out o.length (by simp)
          injection e with e e2 e3
          clear e2 e3
          injection e with e
          injection e with e
          subst e
          simp only [get_mid] at rr0 rr1 rr2
          have c0 := rr1
          have FZ := mz rf
          clear rr0 rr1 rr2 rf
          obtain ⟨ob, hob⟩ : ∃ ob, w3.heap[gr]? = some ob := ⟨_, Array.getElem?_eq_getElem (by have := HGR.out; have := HB3.out.size; omega)⟩
          have HOB := mz hob
          clear hob
          have hwi : IntKind.i64.wrap (o.length : Int) = (o.length : Int) := by rw [i64_w, w64 (by omega) (by omega)]
          have hwl : (o.length : Int) < (o.length : Int) + 1 := by omega
          have hwl2 : (o.length : Int) < (o.length : Int) + 2 := by omega
          have hw0 : (0 : Int) ≤ (o.length : Int) := by omega
          have F : ∀ W' : World, (W'.heap[gr]? = some ob ∧ W'.heap[g3]? = some (.cells #[.int .i64 p.f0, .string p.f1, .string p.f2] 76 (0, 0))) → (W'.cell? ⟨gr, o.length * 3 + 1, none⟩ = some (.string r.f1)) ∧ (W'.cell? ⟨g3, 1, none⟩ = some (.string p.f1)) := fun W' hb => ⟨(show W'.cell? _ = w3.cell? _ by unfold World.cell?; rw [hb.1, HOB.out]).trans c0, (blk_cell hb.2 1).trans rfl⟩
          refine wp_region_last_drew (ds := [11]) (S := fun W' => W'.heap[gr]? = some ob ∧ W'.heap[g3]? = some (.cells #[.int .i64 p.f0, .string p.f1, .string p.f2] 76 (0, 0))) (by kernel_rfl) ⟨HOB.out, M3.out⟩ (fun hH => ?_)
          refine' yT 0 F ?_
          refine' yT 1 F ?_
          refine' yT 2 F ?_
          refine' yT 3 F ?_
          refine' yT 4 F ?_
          refine' yT 5 F ?_
          refine' yT 6 F ?_
          refine' yT 7 F ?_
          refine' yT 8 F ?_
          refine' yT 9 F ?_
          refine' yT 10 F ?_
          have cz : w3.drew.cell? ⟨gr, o.length * 3 + 1, none⟩ = some (.string r.f1) := c0
          have fz : w3.drew.frozen? ⟨gr, o.length * 3 + 1, none⟩ = false := FZ.out _
          refine' yL 11 (w1 := w3.drew.setCell ⟨gr, o.length * 3 + 1, none⟩ (.string (r.f1 ++ p.f1))) ?_
          refine done_ (by kernel_rfl) ?_
          have AP := mz (row_put (w := w3.drew) (base := base) (n := o.length + 1 + 1) (cap := cap) (L := (o ++ [r] ++ [q])) HO3.out o.length (by simp) 1 (by omega) (.string (r.f1 ++ p.f1)) ⟨r.f0, r.f1 ++ p.f1, r.f2⟩ (by simp [cellsP]))
          clear hH F cz fz c0
          generalize w3.drew.setCell ⟨gr, o.length * 3 + 1, none⟩ (.string (r.f1 ++ p.f1)) = w4 at AP ⊢
          go_wp2_with fail
          go_ret
          refine ⟨_, rfl, ?_⟩
          have e2 : addL (o ++ [r, q]) p = o ++ [⟨r.f0, r.f1 ++ p.f1, r.f2⟩, q] := by rw [show o ++ [r, q] = (o ++ [r]) ++ [q] by simp]; exact HV.out
          rw [e2, ← set_mid o r q _]
          exact ⟨AP.out.1, (AStep.of_below HB3.out HS.out).trans ((AStep.of_below (below_drew (Below.refl _ _)) (Nat.le_trans HS.out HB3.out.size)).trans AP.out.2)⟩
        have hr0 : r.f1.size = 0 := by omega
        have l_rf1 : r.f1.toList = [] := (toList_nil _).2 hr0
        have e_rf1 : r.f1.toList.isEmpty = true := by rw [l_rf1]; rfl
        have hv : addL ((o ++ [r]) ++ [q]) p = (o ++ [r]) ++ [p] ++ [q] := by rw [hs, if_neg (by rintro ⟨h, _⟩; exact hfg h), if_neg (by rintro ⟨h, _⟩; exact h y2), if_neg (by rintro ⟨_, h⟩; exact hq h), if_pos ⟨hb1, hq2⟩]; simp [hr0]
        have HV := mz hv
        obtain ⟨i0, hi, hz0, hz1, hz2⟩ := info_parts info76
        have HI := mz hi
        have HZ0 := mz hz0
        have HZ1 := mz hz1
        have HZ2 := mz hz2
        clear hi hz0 hz1 hz2
        clear hv hs hz hp y2 hb1 hq hq1 hq2 z0 hr hr0
        obtain ⟨gr, cap, rfl, hgr, r0', r1', r2', _⟩ := row_at HO.out (o ++ [r]).length (by simp)
        simp only [List.getElem_append_right (Nat.le_refl (o ++ [r]).length), Nat.sub_self, List.getElem_cons_zero, List.length_append, List.length_cons, List.length_nil, Nat.zero_add, Nat.zero_mul] at r0' r1' r2'
        simp only [List.length_append, List.length_cons, List.length_nil, Nat.zero_add] at HO
        have HQ1 := mz (HQ.out q (by simp))
        have ho9 : (o.length + 1) ≤ 900000 := by have := HN9.out; simp at this; omega
        have HGR := mz hgr
        go_enter Try.func86, Try.ntmps86
        go_upto_region 6 with ((with_reducible refine gate_dst (N := 3) rfl ?_); refine bx 3 #[.int .i64 p.f0, .string p.f1, .string p.f2] 76 ?_; intro g3 hg w1 hbox hb1; have HG3 := mz hg; have HB1 := mz hb1; have K3 := mz hbox; have HO1 := mz (HO.out.below hb1); obtain ⟨x0, x1, x2⟩ := cells3 hbox; clear hg hbox hb1)
        have r0 := cell_step r0' HB1.out
        have r1 := cell_step r1' HB1.out
        have r2 := cell_step r2' HB1.out
        clear r0' r1' r2' x0 x1 x2
        obtain ⟨q0, q1, q2, q3⟩ := HQ1.out
        go_upto_region 8 with ((with_reducible refine gate_dst (N := 6) rfl ?_); refine bx 6 #[.int .i64 0, .string ⟨#[]⟩, .string ⟨#[]⟩] 76 ?_; intro g6 hg w2 hbox hb1; have HG6 := mz hg; have HB2 := mz hb1; have K6 := mz hbox; have HO2 := mz (HO1.out.below hb1); have K3' := mz (blk_below K3.out hb1); have v0 := cell_step r0 hb1; have v1 := cell_step r1 hb1; have v2 := cell_step r2 hb1; obtain ⟨t0, t1, t2⟩ := cells3 hbox; obtain ⟨t3, t4, t5⟩ := froz3 hbox; clear hg hbox hb1 r0 r1 r2)
        have M6 := mz (fillP K6.out rfl q.f0 q.f1 q.f2)
        have B3 := mz (belowP (Below.refl w1.heap.size w2) (Nat.le_of_eq HG6.out.symm) (.int .i64 q.f0) (.string q.f1) (.string q.f2))
        have HB3 := mz (below_step HB1.out (HB2.out.trans B3.out))
        have HO3 := mz (HO1.out.below (HB2.out.trans B3.out))
        have M3 := mz (blk_below K3.out (HB2.out.trans B3.out))
        clear v0 v1 v2 t0 t1 t2 t3 t4 t5 K6 K3' K3 B3 HO2
        generalize (((w2.setCell ⟨g6, 0, none⟩ (.int .i64 q.f0)).setCell ⟨g6, 1, none⟩ (.string q.f1)).setCell ⟨g6, 2, none⟩ (.string q.f2)) = w3 at M6 HB3 HO3 M3 ⊢
        obtain ⟨x0, x1, x2⟩ := cells3 M3.out
        obtain ⟨t0, t1, t2⟩ := cells3 M6.out
        have hgr6 : g6 ≠ gr := fun e => by have h1 := HGR.out; have h2 := HG6.out; have h3 := HB1.out.size; omega
        have hgr3 : g3 ≠ gr := fun e => by have h1 := HGR.out; have h2 := HG3.out; omega
        obtain ⟨gr', cap', e, _, rn0, rn1, rn2, rf⟩ := row_at HO3.out o.length (by simp)
        injection e with e e2 e3
        clear e2 e3
        injection e with e
        injection e with e
        subst e
        simp only [get_mid] at rn0 rn1 rn2
        clear rn0 rn2 rf
        go_upto_region 18 with fail
        clear rn1
        obtain ⟨gr', cap', e, _, rr0, rr1, rr2, rf⟩ := row_at HO3.out (o ++ [r]).length (by simp)
        injection e with e e2 e3
        clear e2 e3
        injection e with e
        injection e with e
        subst e
        simp only [List.getElem_append_right (Nat.le_refl (o ++ [r]).length), Nat.sub_self, List.getElem_cons_zero, List.length_append, List.length_cons, List.length_nil, Nat.zero_add, Nat.zero_mul] at rr0 rr1 rr2
        have f0 := rf ((o.length + 1) * 3)
        have f1 := rf ((o.length + 1) * 3 + 1)
        have f2 := rf ((o.length + 1) * 3 + 2)
        clear rf
        go_upto_region 19 with fail
        have ap := row_put3 (n := o.length + 1 + 1) (cap := cap) HO3.out (Nat.le_trans HS.out HB3.out.size) (o ++ [r]).length (by simp) p
        rw [set_last] at ap
        simp only [List.length_append, List.length_cons, List.length_nil, Nat.zero_add, Nat.zero_mul] at ap
        have AP := mz ap
        clear ap rr0 rr1 rr2 f0 f1 f2 x0 x1 x2 t0 t1 t2
        generalize (((w3.setCell ⟨gr, (o.length + 1) * 3, none⟩ (.int .i64 p.f0)).setCell ⟨gr, (o.length + 1) * 3 + 1, none⟩ (.string p.f1)).setCell ⟨gr, (o.length + 1) * 3 + 2, none⟩ (.string p.f2)) = w4 at AP ⊢
        have M6' := mz ((AP.out.2.kept.2 g6 (blk_lt M6.out) (fun e => by injection e with e; exact hgr6 e)).trans M6.out)
        obtain ⟨t0, t1, t2⟩ := cells3 M6'.out
        have HO4 := mz AP.out.1
        have HN8 := HN9
        clear HN9
        have HN9 : Aside0 (((o ++ [r]) ++ [p]).length ≤ 900000) := ⟨by have h8 := HN8.out; rw [List.length_append] at h8 ⊢; exact h8⟩
        go_wp2_with (at_builtin; refine wpList_append_lies _ rfl (.tmp 137) (.tmp 139) 34 rfl base 76 i0 (.agg #[.int .i64 0, .string ⟨#[]⟩, .string ⟨#[]⟩]) 3 40 Try.underlying34 HI.out HZ0.out HZ1.out HZ2.out rfl (by decide) (.slice (some ⟨gr, 0, none⟩) (o.length + 1 + 1) cap) ((o ++ [r]) ++ [p]).length (((o ++ [r]) ++ [p]).flatMap cellsP) (by rfl) (own_alloc HO4.out _) ⟨w4.heap.size, 0, none⟩ 1 1 (cellsP q) (by rfl) rfl (cells_new _ _ _) (fun u hu => cells_one [q] u (by simpa using hu)) (by omega) (by unfold maxLen; have := HN9.out; omega) (by have := HN9.out; omega) (Nat.le_trans (Nat.le_trans (Nat.le_trans HS.out HB3.out.size) AP.out.2.below.size) (by simp)) _ rfl ?_; intro g1 cap1 w5 ho hg hat hlt; have HAP := mz (add_app HO4.out (Nat.le_trans (Nat.le_trans HS.out HB3.out.size) AP.out.2.below.size) ho hg (hat.imp id (fun h => h.trans (by simp)))); clear ho hg hat hlt)
        go_ret
        refine ⟨_, rfl, ?_⟩
        have e2 : addL (o ++ [r, q]) p = o ++ [r] ++ [p] ++ [q] := by rw [show o ++ [r, q] = (o ++ [r]) ++ [q] by simp]; exact HV.out
        rw [e2]
        have hx := HAP.out
        simp only [List.length_append, List.length_cons, List.length_nil, Nat.zero_add] at hx
        exact ⟨hx.1, (AStep.of_below HB3.out HS.out).trans (AP.out.2.trans hx.2)⟩
      have hq0 : q.f2.size = 0 := by omega
      have l_qf2 : q.f2.toList = [] := (toList_nil _).2 hq0
      have e_qf2 : q.f2.toList.isEmpty = true := by rw [l_qf2]; rfl
      have hv : addL (o ++ [q]) p = o ++ [q] ++ [p] := by rw [hs, if_neg (by rintro ⟨h, _⟩; exact hfg h), if_neg (by rintro ⟨h, _⟩; exact h y2), if_neg (by rintro ⟨_, h⟩; exact hq h), if_neg (by rintro ⟨_, h⟩; exact hq2 h)]
      have HV := mz hv
      obtain ⟨i0, hi, hz0, hz1, hz2⟩ := info_parts info76
      have HI := mz hi
      have HZ0 := mz hz0
      have HZ1 := mz hz1
      have HZ2 := mz hz2
      clear hi hz0 hz1 hz2
      clear hv hs hz hp y2 hb1 hq hq0 hq1 hq2 z0
      obtain ⟨gr, cap, rfl, hgr, r0', r1', r2', _⟩ := row_at HO.out o.length (by simp)
      simp only [List.getElem_append_right (Nat.le_refl o.length), Nat.sub_self, List.getElem_cons_zero] at r0' r1' r2'
      simp only [List.length_append, List.length_cons, List.length_nil, Nat.zero_add] at HO
      have HQ1 := mz (HQ.out q (by simp))
      have ho9 : o.length ≤ 900000 := by have := HN9.out; simp at this; omega
      have HGR := mz hgr
      go_enter Try.func86, Try.ntmps86
      go_upto_region 6 with ((with_reducible refine gate_dst (N := 3) rfl ?_); refine bx 3 #[.int .i64 p.f0, .string p.f1, .string p.f2] 76 ?_; intro g3 hg w1 hbox hb1; have HG3 := mz hg; have HB1 := mz hb1; have K3 := mz hbox; have HO1 := mz (HO.out.below hb1); obtain ⟨x0, x1, x2⟩ := cells3 hbox; clear hg hbox hb1)
      have r0 := cell_step r0' HB1.out
      have r1 := cell_step r1' HB1.out
      have r2 := cell_step r2' HB1.out
      clear r0' r1' r2' x0 x1 x2
      obtain ⟨q0, q1, q2, q3⟩ := HQ1.out
      go_upto_region 8 with ((with_reducible refine gate_dst (N := 6) rfl ?_); refine bx 6 #[.int .i64 0, .string ⟨#[]⟩, .string ⟨#[]⟩] 76 ?_; intro g6 hg w2 hbox hb1; have HG6 := mz hg; have HB2 := mz hb1; have K6 := mz hbox; have HO2 := mz (HO1.out.below hb1); have K3' := mz (blk_below K3.out hb1); have v0 := cell_step r0 hb1; have v1 := cell_step r1 hb1; have v2 := cell_step r2 hb1; obtain ⟨t0, t1, t2⟩ := cells3 hbox; obtain ⟨t3, t4, t5⟩ := froz3 hbox; clear hg hbox hb1 r0 r1 r2)
      have M6 := mz (fillP K6.out rfl q.f0 q.f1 q.f2)
      have B3 := mz (belowP (Below.refl w1.heap.size w2) (Nat.le_of_eq HG6.out.symm) (.int .i64 q.f0) (.string q.f1) (.string q.f2))
      have HB3 := mz (below_step HB1.out (HB2.out.trans B3.out))
      have HO3 := mz (HO1.out.below (HB2.out.trans B3.out))
      have M3 := mz (blk_below K3.out (HB2.out.trans B3.out))
      clear v0 v1 v2 t0 t1 t2 t3 t4 t5 K6 K3' K3 B3 HO2
      generalize (((w2.setCell ⟨g6, 0, none⟩ (.int .i64 q.f0)).setCell ⟨g6, 1, none⟩ (.string q.f1)).setCell ⟨g6, 2, none⟩ (.string q.f2)) = w3 at M6 HB3 HO3 M3 ⊢
      obtain ⟨x0, x1, x2⟩ := cells3 M3.out
      obtain ⟨t0, t1, t2⟩ := cells3 M6.out
      go_wp2_with (at_builtin; refine wpList_append_lies _ rfl (.tmp 36) (.tmp 38) 34 rfl base 76 i0 (.agg #[.int .i64 0, .string ⟨#[]⟩, .string ⟨#[]⟩]) 3 40 Try.underlying34 HI.out HZ0.out HZ1.out HZ2.out rfl (by decide) (.slice (some ⟨gr, 0, none⟩) (o.length + 1) cap) (o ++ [q]).length ((o ++ [q]).flatMap cellsP) (by rfl) (own_alloc HO3.out _) ⟨w3.heap.size, 0, none⟩ 1 1 (cellsP p) (by rfl) rfl (cells_new _ _ _) (fun u hu => cells_one [p] u (by simpa using hu)) (by omega) (by unfold maxLen; have := HN9.out; omega) (by have := HN9.out; omega) (Nat.le_trans (Nat.le_trans HS.out HB3.out.size) (by simp)) _ rfl ?_; intro g1 cap1 w4 ho hg hat hlt; have HAP := mz (add_app HO3.out (Nat.le_trans HS.out HB3.out.size) ho hg (hat.imp id (fun h => h.trans (by simp)))); clear ho hg hat hlt)
      go_ret
      refine ⟨_, rfl, ?_⟩
      rw [HV.out]
      skip
      have hx := HAP.out
      simp only [List.length_append, List.length_cons, List.length_nil, Nat.zero_add] at hx
      exact ⟨hx.1, (AStep.of_below HB3.out HS.out).trans hx.2⟩

instance decPureP (p : Part) : Decidable (pureP p) := by unfold pureP; infer_instance
def spec_l3Normal.f (l0 : List Part) : Option (List Part) := if makeB l0 = true ∧ ∀ p ∈ l0, pureP p then some (normL l0) else none
theorem take_len3 (m : Mk) (p : Part) : (madeL (takeM m p)).length ≤ (madeL m).length + 3 := by
  have a1 := putPart_length ((keepM p.f0 m).put ++ p.f1)
  have a2 := dropPart_length ((keepM p.f0 m).drop ++ p.f2)
  rw [madeL_length]
  unfold takeM
  simp only
  have e : (keepM p.f0 m).out.length ≤ (madeL m).length + 1 := by
    unfold keepM
    by_cases z : p.f0 = 0
    · rw [if_pos z]; have := made_out m; omega
    · rw [if_neg z]; exact keepL_length _ _
  omega
theorem fold_len3 (l : List Part) : ∀ m : Mk, (madeL (l.foldl takeM m)).length ≤ (madeL m).length + 3 * l.length := by
  induction l with
  | nil => intro m; exact Nat.le_add_right _ _
  | cons p l ih => intro m; have h1 := ih (takeM m p); have h2 := take_len3 m p; rw [List.foldl_cons, List.length_cons]; omega
theorem made_len (l : List Part) (h : l.length ≤ 2000) : (madeL (l.foldl takeM mk0)).length ≤ 100000 := by
  have := fold_len3 l mk0
  rw [show madeL mk0 = [] from rfl, List.length_nil] at this
  omega
theorem add_next {l : List Part} {p : Part} (hl : ∀ q ∈ l, pureP q) (hp : pureP p) : addL (madeL (l.foldl takeM mk0)) p = madeL ((l ++ [p]).foldl takeM mk0) := by
  rw [addL_made _ p (InvM.zero.fold (fun q hq => (hl q hq).1)) hp, List.foldl_append]; rfl


set_option maxHeartbeats 8000000 in
set_option maxRecDepth 100000 in
theorem spec_l3Normal.calls (A0 : Option Addr) (c0 : Nat) (l0 : List Part) (r : List Part) (w : World) (hr0 : Kd.C k76 w A0 l0.length l0) (hc0 : l0.length ≤ c0) (h : spec_l3Normal.f l0 = some r) :
    Calls Try.prog 97 #[.slice A0 l0.length c0] w fun e w' => ∃ v0_ : Value, e = .returned (v0_) ∧ Kd.R k76 76 w' w.heap.size (fun _ => True) v0_ r ∧ Below w.heap.size w w' := by
  unfold spec_l3Normal.f at h
  by_cases hm : makeB l0 = true ∧ ∀ p ∈ l0, pureP p
  case neg => rw [if_neg hm] at h; cases h
  rw [if_pos hm] at h
  obtain rfl := Option.some.inj h
  obtain ⟨hm, hpu⟩ := hm
  obtain ⟨hl, hp⟩ := makeB_of hm
  have HC := mz hr0
  have HP := mz hp
  have HPU := mz hpu
  clear hr0 hp hpu hm h hc0
  go_enter Try.func97, Try.ntmps97
  go_wp2
  go_loopg [3, 5, 8] l0.length (fun gg s3 _ s8 wr => ∃ (kk : Nat), kk ≤ l0.length ∧ l0.length - kk ≤ gg ∧ s8 = .int .i64 kk ∧ Aside0 (OwnP w.heap.size wr s3 (madeL (((l0.take kk)).foldl takeM mk0))) ∧ Aside0 (Below w.heap.size w wr))
  case atStart => exact ⟨0, Nat.zero_le _, by omega, rfl, ⟨by simp only [List.take_zero, List.map_nil, List.foldl_nil]; exact own_nil _ _ _ _⟩, ⟨Below.refl _ _⟩⟩
  case round =>
    obtain ⟨kk, hkk, hg, rfl, HM, HB⟩ := hrel
    have HBD : Aside0 (BndM (((l0.take kk)).foldl takeM mk0) 800000) := ⟨(BndM.fold (C := 400) (by omega) ((l0.take kk)) BndM.zero (by exact fun q hq => HP.out q (List.mem_of_mem_take hq))).mono (by skip; rw [List.length_take]; omega)⟩
    by_cases hlt : kk < l0.length
    · have hltz : (kk : Int) < (l0.length : Int) := by omega
      have hsp := HP.out l0[kk] (List.getElem_mem hlt)
      have hpp := HPU.out l0[kk] (List.getElem_mem hlt)
      obtain ⟨ad, eA, x0, x1, x2⟩ := at_T76 (Kd.C_below HC.out HB.out) (kk : Int) (by omega) hltz
      rw [rd_part l0 kk hlt, Int.toNat_natCast] at x0 x1 x2
      subst eA
      have hadd : addL (madeL (((l0.take kk)).foldl takeM mk0)) l0[kk] = madeL (((l0.take (kk + 1))).foldl takeM mk0) := by rw [add_next (fun q hq => HPU.out q (List.mem_of_mem_take hq)) hpp, List.take_succ_eq_append_getElem hlt]; skip
      have HF := mz hadd
      have HSP := mz hsp
      have HPP := mz hpp
      clear hadd hsp hpp
      generalize l0[kk] = p at x0 x1 x2 HF HSP HPP
      skip
      go_upto_region 5 with ((with_reducible refine gate_dst (N := 5) rfl ?_); refine bx 5 #[.int .i64 0, .string ⟨#[]⟩, .string ⟨#[]⟩] 76 ?_; intro gp hg2 w2 hbox hb; have y0 := cell_step x0 hb; have y1 := cell_step x1 hb; have y2 := cell_step x2 hb; have BB := mz hb; have BX := mz hbox; obtain ⟨e0, e1, e2⟩ := cells3 hbox; obtain ⟨f0, f1, f2⟩ := froz3 hbox; have HG2 := mz hg2; clear hg2 hb hbox x0 x1 x2)
      obtain ⟨hbk, hbb⟩ := fill3 (v0 := .int .i64 p.f0) (v1 := .string p.f1) (v2 := .string p.f2) BB.out (Nat.le_of_eq HG2.out.symm) BX.out
      clear y0 y1 y2 e0 e1 e2 f0 f1 f2 BB BX
      generalize (((w2.setCell ⟨gp, 0, none⟩ (.int .i64 p.f0)).setCell ⟨gp, 1, none⟩ (.string p.f1)).setCell ⟨gp, 2, none⟩ (.string p.f2)) = w3 at hbk hbb ⊢
      have HB3 := mz hbb
      obtain ⟨e0, e1, e2⟩ := cells3 hbk
      clear hbk hbb
      have HBS : Aside0 (w.heap.size ≤ w3.heap.size) := ⟨Nat.le_trans HB.out.size HB3.out.size⟩
      go_wp2_with fail
      refine (add_walk w.heap.size _ _ p w3 (HM.out.below HB3.out) HBS.out ?hok).mono ?_
      case hok => exact ⟨HPP.out, Nat.le_trans (made_len _ (by rw [List.length_take]; omega)) (by omega), (HSP.out.mono (by omega)), fun q hq => (HBD.out.mem q hq).mono (by omega)⟩
      rintro e w4 ⟨v4, rfl, hO4, hS4⟩
      rw [HF.out] at hO4
      have HM4 := mz hO4
      have HB4 := mz ((HB.out.trans (HB3.out.mono HB.out.size)).trans hS4.below)
      clear hO4 hS4 e0 e1 e2
      go_wp2_with fail
      go_roundg (l0.length - (kk + 1))
      case measure => omega
      case rel => exact ⟨kk + 1, by omega, by omega, by (first | go_num | (congr 1; unfold wrap64; omega)), ⟨HM4.out⟩, ⟨HB4.out⟩⟩
    · have hltz : ¬ (kk : Int) < (l0.length : Int) := by omega
      obtain rfl : kk = l0.length := by omega
      go_wp2_with fail
      go_ret
      have hr := R_of_flat HM.out
      rw [List.take_length] at hr
      exact ⟨_, rfl, hr, HB.out⟩
theorem below_drawn0 {w w' : World} (h : Drawn0 w w') : Below w.heap.size w w' := by
  obtain ⟨n, rfl⟩ := h
  exact pw_below_drewN (Below.refl _ _) n
def keepV (n : Int) : List Part × Bool := if 0 ≤ n ∧ n ≤ 300 then (if n = 0 then [] else [⟨n, noB, noB⟩], true) else ([], false)
def spec_KeepAll.f (a0 : Int) : Option (List Part × Bool) := some (keepV a0)
theorem keep_add (n : Int) (h : 0 ≤ n) : addL [] ⟨n, ⟨#[]⟩, ⟨#[]⟩⟩ = if n = 0 then [] else [⟨n, noB, noB⟩] := by
  unfold addL
  by_cases z : n = 0
  · subst z; rfl
  · rw [if_neg (by rintro ⟨e, _⟩; exact z e), if_neg z]; rfl
set_option maxHeartbeats 4000000 in
theorem spec_KeepAll.calls (a0 : Int) (r1 : List Part) (r2 : Bool) (w : World) (h : spec_KeepAll.f a0 = some (r1, r2)) :
    Calls Try.prog 59 #[.int .i64 a0] w fun e w' => ∃ v0_ : Value, e = .returned (.tuple #[v0_, .bool r2]) ∧ Kd.R k76 76 w' w.heap.size (fun _ => True) v0_ r1 ∧ Below w.heap.size w w' := by
  have h0 := Option.some.inj h
  clear h
  by_cases hn : 0 ≤ a0 ∧ a0 ≤ 300
  · have hv : keepV a0 = (if a0 = 0 then [] else [⟨a0, noB, noB⟩], true) := by unfold keepV; rw [if_pos hn]
    rw [hv] at h0
    obtain ⟨e1, rfl⟩ := Prod.mk.inj h0
    have hin : spec_l1In.f a0 0 300 = some true := by unfold spec_l1In.f; rw [if_pos hn.1]; simp [hn.2]
    have HE := mz e1
    have HIN := mz hin
    have hok : AddOk [] ⟨a0, ⟨#[]⟩, ⟨#[]⟩⟩ := ⟨⟨hn.1, fun _ => ⟨rfl, rfl⟩, fun x => absurd rfl x⟩, by simp, ⟨hn.1, by simp only; omega, Nat.zero_le _, Nat.zero_le _⟩, by simp⟩
    have HOK := mz hok
    have HN := mz hn.1
    clear h0 hv hin hok hn e1
    go_enter Try.func59, Try.ntmps59
    go_wp2_with fail
    refine (spec_l1In.calls a0 0 300 true _ HIN.out).mono ?_
    rintro e w1 ⟨rfl, hd⟩
    have hb := below_drawn0 hd
    clear hd
    have HB1 := mz hb
    clear hb
    go_wp2_with fail
    refine (add_walk w.heap.size (.slice none 0 0) [] ⟨a0, ⟨#[]⟩, ⟨#[]⟩⟩ w1 (own_nil _ _ _ _) HB1.out.size HOK.out).mono ?_
    rintro e w2 ⟨v2, rfl, hO, hS⟩
    rw [keep_add a0 HN.out, HE.out] at hO
    have HO := mz (R_of_flat hO)
    have HB2 := mz (HB1.out.trans hS.below)
    clear hO hS
    go_wp2_with fail
    go_ret2
    exact ⟨v2, rfl, HO.out, HB2.out⟩
  · have hv : keepV a0 = ([], false) := by unfold keepV; rw [if_neg hn]
    rw [hv] at h0
    obtain ⟨rfl, rfl⟩ := Prod.mk.inj h0
    have hin : spec_l1In.f a0 0 300 = some false := by unfold spec_l1In.f; by_cases z : (0 : Int) ≤ a0; (· rw [if_pos z]; simp; omega); (· rw [if_neg z])
    have HIN := mz hin
    clear h0 hv hin hn
    go_enter Try.func59, Try.ntmps59
    go_wp2_with fail
    refine (spec_l1In.calls a0 0 300 false _ HIN.out).mono ?_
    rintro e w1 ⟨rfl, hd⟩
    have hb := below_drawn0 hd
    clear hd
    have HB1 := mz hb
    clear hb
    go_wp2_with fail
    go_ret2
    exact ⟨.slice none 0 0, rfl, Kd.R_nil _ _ _ _ _, HB1.out⟩
section
attribute [local go_sem] max2_int min2_int max_two min_two max_three min_three max_four min_four
def spec_l15Texts.l0 : Nat → List ByteArray → ByteArray → List (S60) → Int → Int → Option (List ByteArray × Bool)
  | 0, _, _, _, _, _ => none
  | k + 1, x4, x5, x16, x17, x18 => if x18 < x17 then (if 0 ≤ x18 then (if x18 < (x16.length : Int) then ((spec_l3Apply.f k ((rd_T60 x16 x18).f2) x5).bind fun bt107 => (if bt107.2 = true then ((spec_GoodText.f k bt107.1).bind fun t109 => (if t109 = true then (if x4.length < 8796093022208 then (spec_l15Texts.l0 k (x4 ++ [bt107.1]) bt107.1 x16 x17 (wrap64 (x18 + 1))) else (none)) else (some (([] : List ByteArray), false)))) else (some (([] : List ByteArray), false)))) else (none)) else (none)) else (some (x4, true))
def spec_l15Texts.f (k : Nat) (a0_0 : ByteArray) (a0_1 : ByteArray) (l0_2 : List (S60)) : Option (List ByteArray × Bool) := spec_l15Texts.l0 k (([a0_0] : List ByteArray)) a0_0 l0_2 (l0_2.length : Int) 0
set_option maxHeartbeats 8000000 in
set_option maxRecDepth 100000 in
theorem spec_l15Texts.calls (k : Nat) (a0_0 : ByteArray) (a0_1 : ByteArray) (A0_2 : Option Addr) (c0_2 : Nat) (l0_2 : List (S60)) (r1 : List ByteArray) (r2 : Bool) (w : World) (hr0_2 : Kd.C k60 w A0_2 l0_2.length l0_2) (hc0_2 : l0_2.length ≤ c0_2) (h : spec_l15Texts.f k a0_0 a0_1 l0_2 = some (r1, r2)) :
    Calls Try.prog 58 #[.agg #[.string a0_0, .string a0_1, .slice A0_2 l0_2.length c0_2]] w fun e w' => ∃ v0_ : Value, e = .returned (.tuple #[v0_, .bool r2]) ∧ Kd.R Kd.string 9 w' w.heap.size (fun _ => True) v0_ r1 ∧ Below w.heap.size w w' := by
  have hu49 := Try.underlying49
  have hu60 := Try.underlying60
  have HR0_2 := mz hr0_2
  have HC0_2 := mz hc0_2
  clear hr0_2 hc0_2
  have HB := mz (Below.refl w.heap.size w)
  have H : (spec_l15Texts.l0 k (([a0_0] : List ByteArray)) a0_0 l0_2 (l0_2.length : Int) 0) = some (r1, r2) := h
  clear h
  obtain ⟨y102, hy102⟩ : ∃ y_ : List ByteArray, y_ = (([a0_0] : List ByteArray)) := ⟨_, rfl⟩
  replace H : (spec_l15Texts.l0 k y102 a0_0 l0_2 (l0_2.length : Int) 0) = some (r1, r2) := by first | (rw [hy102]; with_reducible exact H) | (have H2_ := (Option.bind_some _ _).symm.trans H; rw [hy102]; with_reducible exact H2_) | (have H2_ := (Option.bind_some _ _).symm.trans H; with_reducible exact H2_) | with_reducible exact H | (rw [hy102]; exact H) | exact H
  have Ny102 := mz hy102
  clear hy102
  have H' := mz H
  clear H
  go_enter Try.func58, Try.ntmps58
  go_wp2_with (first | ((with_reducible refine gate_dst (N := 1) rfl ?_); refine box_event ?hg (N := 1) ?hd (cs := #[.string a0_0, .string a0_1, .slice A0_2 l0_2.length c0_2]) (t := 49) ?hr ?_; (case hd => rfl); (case hg => rfl); (case hr => first | (go_simp; done) | (go_simp; rfl)); intro gb101 hg w2 hbox hb; have n0_ := mz (below_step (by repeat (first | (with_reducible first | exact HB.out | apply below_alloc | apply pw_below_drewN | apply below_drew1) | exact HB.out)) hb); have n1_ := mz (hbox); have n2_ := mz ((by rw [hg]; exact (below_size (by repeat (first | (with_reducible first | exact HB.out | apply below_alloc | apply pw_below_drewN | apply below_drew1) | exact HB.out))) : w.heap.size ≤ gb101)); have n3_ := mz ((by rw [hg]; exact (below_size (by repeat (first | (with_reducible first | exact HB.out | apply below_alloc | apply pw_below_drewN | apply below_drew1) | exact HB.out))) : w.heap.size ≤ gb101)); clear HB; have HB := n0_; have BK101 := n1_; have GW101 := n2_; have GE101 := n3_; clear n0_ n1_ n2_ n3_; clear hb hbox hg; have hcz3_0 : w2.cell? ⟨gb101, 0, none⟩ = some (.string a0_0) := (blk_cell BK101.out 0).trans rfl; have hcz3_1 : w2.cell? ⟨gb101, 1, none⟩ = some (.string a0_1) := (blk_cell BK101.out 1).trans rfl; have hcz3_2 : w2.cell? ⟨gb101, 2, none⟩ = some (.slice A0_2 l0_2.length c0_2) := (blk_cell BK101.out 2).trans rfl; have hfz3_0 := blk_frozen BK101.out 0; have hfz3_1 := blk_frozen BK101.out 1; have hfz3_2 := blk_frozen BK101.out 2) | ((with_reducible refine gate_dst (N := 12) rfl ?_); refine Kd.R_lit Kd.string _ 9 ?hg (N := 12) ?hd (xs := ([a0_0] : List ByteArray)) (inner := [.string a0_0]) (ok := fun _ => True) (okp := fun _ => True) ?hr ?hp (fun _ hk => hk) trivial (Below.refl _ _) (Nat.le_refl _) (by simp) ?_; (case hd => rfl); (case hg => rfl); (case hr => first | (go_simp; done) | (go_simp; rfl)); (case hp => exact (Reps.one (show Kd.M Kd.string _ _ _ a0_0 [.string a0_0] from rfl) (Reps.none _ _))); intro v103 w4 ho5 hb hg_ hnew_; clear hg_ hnew_; (first | rw [← Ny102.out] at ho5 | (simp only [Int.reduceToNat] at ho5; rw [← Ny102.out] at ho5)); have n0_ := mz (Kd.R_lower ho5 (below_size (by repeat (first | (with_reducible first | exact HB.out | apply below_alloc | apply pw_below_drewN | apply below_drew1 | refine below_set ?_ GE101.out) | exact HB.out)))); have n1_ := mz (blk_below (g := gb101) (o := .cells #[.string a0_0, .string a0_1, .slice A0_2 l0_2.length c0_2] 49 (0, 0)) (by (with_reducible repeat (first | refine blk_drewN ?_ _ | refine blk_drew ?_ | refine blk_alloc ?_ _)); exact BK101.out) hb); have n2_ := mz (below_step (by repeat (first | (with_reducible first | exact HB.out | apply below_alloc | apply pw_below_drewN | apply below_drew1 | refine below_set ?_ GE101.out) | exact HB.out)) hb); clear BK101; clear HB; have HO104 := n0_; have BK101 := n1_; have HB := n2_; clear n0_ n1_ n2_; clear hb ho5; have hcz6_0 : w4.cell? ⟨gb101, 0, none⟩ = some (.string a0_0) := (blk_cell BK101.out 0).trans rfl; have hcz6_1 : w4.cell? ⟨gb101, 1, none⟩ = some (.string a0_1) := (blk_cell BK101.out 1).trans rfl; have hcz6_2 : w4.cell? ⟨gb101, 2, none⟩ = some (.slice A0_2 l0_2.length c0_2) := (blk_cell BK101.out 2).trans rfl; have hfz6_0 := blk_frozen BK101.out 0; have hfz6_1 := blk_frozen BK101.out 1; have hfz6_2 := blk_frozen BK101.out 2))
  go_loopg [4, 5, 18] k (fun kq v4 v5 v18 w' => ∃ (x4_1 : List ByteArray) (x5_1 : ByteArray) (x18_1 : Int), v5 = .string x5_1 ∧ v18 = .int .i64 x18_1 ∧ Aside0 (spec_l15Texts.l0 kq x4_1 x5_1 l0_2 (l0_2.length : Int) x18_1 = some (r1, r2)) ∧ Aside0 (kq ≤ k) ∧ Aside0 (Kd.R Kd.string 9 w' w.heap.size (fun _ => True) v4 x4_1) ∧ Aside0 (w'.heap[gb101]? = some (.cells #[.string a0_0, .string a0_1, (.slice A0_2 l0_2.length c0_2)] 49 (0, 0))) ∧ Aside0 (Below w.heap.size w w'))
  case atStart => exact ⟨(y102), (a0_0), (0), (by first | rfl | (simp; done) | (simp [*]; done)), (by first | rfl | (simp; done) | (simp [*]; done)), H', ⟨Nat.le_refl _⟩, ⟨by (with_reducible repeat (first | apply Kd.R_alloc | apply Kd.R_drewN | apply Kd.R_drew)); exact HO104.out⟩, ⟨by (with_reducible repeat (first | refine blk_drewN ?_ _ | refine blk_drew ?_ | refine blk_alloc ?_ _)); exact BK101.out⟩, ⟨by repeat (first | (with_reducible first | exact HB.out | apply below_alloc | apply pw_below_drewN | apply below_drew1 | refine below_set ?_ GE101.out) | exact HB.out)⟩⟩
  case round =>
    clear H'
    try clear p2
    try clear c5
    try clear hcz3_0
    try clear hcz3_1
    try clear hcz3_2
    try clear hcz6_0
    try clear hcz6_1
    try clear hcz6_2
    try clear hfz3_0
    try clear hfz3_1
    try clear hfz3_2
    try clear hfz6_0
    try clear hfz6_1
    try clear hfz6_2
    obtain ⟨x4_1, x5_1, x18_1, rfl, rfl, HA, HK1, HO_4, BK101, HB⟩ := hrel
    cases gk with
    | zero => exact absurd HA.out (by simp [spec_l15Texts.l0])
    | succ k1 =>
      have H := HA.out
      clear HA
      simp only [spec_l15Texts.l0] at H
      by_cases c7 : x18_1 < (l0_2.length : Int)
      · rw [if_pos c7] at H
        have c7b0 : decide (x18_1 < (l0_2.length : Int)) = true := decide_eq_true c7
        clear c7
        by_cases c8 : 0 ≤ x18_1
        · rw [if_pos c8] at H
          have c8b0 : decide (0 ≤ x18_1) = true := decide_eq_true c8
          clear c8
          by_cases c9 : x18_1 < (l0_2.length : Int)
          · rw [if_pos c9] at H
            have c9b0 : decide (x18_1 < (l0_2.length : Int)) = true := decide_eq_true c9
            clear c9
            replace H := be0_ H
            obtain ⟨⟨t107, t108⟩, A100, H⟩ := H
            replace H : (if t108 = true then ((spec_GoodText.f k1 t107).bind fun t109 => (if t109 = true then (if x4_1.length < 8796093022208 then (spec_l15Texts.l0 k1 (x4_1 ++ [t107]) t107 l0_2 (l0_2.length : Int) (wrap64 (x18_1 + 1))) else (none)) else (some (([] : List ByteArray), false)))) else (some (([] : List ByteArray), false))) = some (r1, r2) := H
            have A10 := mz A100
            clear A100
            by_cases c11 : t108 = true
            · subst c11
              have H1 : ((spec_GoodText.f k1 t107).bind fun t109 => (if t109 = true then (if x4_1.length < 8796093022208 then (spec_l15Texts.l0 k1 (x4_1 ++ [t107]) t107 l0_2 (l0_2.length : Int) (wrap64 (x18_1 + 1))) else (none)) else (some (([] : List ByteArray), false)))) = some (r1, r2) := by rw [if_pos rfl] at H; exact H
              clear H
              have H := H1
              clear H1
              replace H := be0_ H
              obtain ⟨t109, A120, H⟩ := H
              replace H : (if t109 = true then (if x4_1.length < 8796093022208 then (spec_l15Texts.l0 k1 (x4_1 ++ [t107]) t107 l0_2 (l0_2.length : Int) (wrap64 (x18_1 + 1))) else (none)) else (some (([] : List ByteArray), false))) = some (r1, r2) := H
              have A12 := mz A120
              clear A120
              by_cases c13 : t109 = true
              · subst c13
                have H1 : (if x4_1.length < 8796093022208 then (spec_l15Texts.l0 k1 (x4_1 ++ [t107]) t107 l0_2 (l0_2.length : Int) (wrap64 (x18_1 + 1))) else (none)) = some (r1, r2) := by rw [if_pos rfl] at H; exact H
                clear H
                have H := H1
                clear H1
                by_cases c14 : x4_1.length < 8796093022208
                · rw [if_pos c14] at H
                  have LMc14 := mz c14
                  clear c14
                  obtain ⟨y110, hy110⟩ : ∃ y_ : List ByteArray, y_ = (x4_1 ++ [t107]) := ⟨_, rfl⟩
                  replace H : (spec_l15Texts.l0 k1 y110 t107 l0_2 (l0_2.length : Int) (wrap64 (x18_1 + 1))) = some (r1, r2) := by first | (rw [hy110]; with_reducible exact H) | (have H2_ := (Option.bind_some _ _).symm.trans H; rw [hy110]; with_reducible exact H2_) | (have H2_ := (Option.bind_some _ _).symm.trans H; with_reducible exact H2_) | with_reducible exact H | (rw [hy110]; exact H) | exact H
                  have Ny110 := mz hy110
                  clear hy110
                  have H' := mz H
                  clear H
                  have p105 : 0 ≤ (x18_1 : Int) := of_decide_eq_true (by first | (with_reducible assumption) | assumption)
                  have q105 : x18_1 < (l0_2.length : Int) := of_decide_eq_true (by first | (with_reducible assumption) | assumption)
                  obtain ⟨ad105, A105_2, c105_2, e105, hx105_0, hx105_1, hx105_2, hl105_2, hi105_2⟩ := at_T60 HR0_2.out x18_1 p105 q105
                  cases e105
                  replace hx105_0 := bc_ HB.out hx105_0
                  replace hx105_1 := bc_ HB.out hx105_1
                  replace hx105_2 := bc_ HB.out hx105_2
                  have HR105_2 := mz hi105_2
                  have HC105_2 := mz hl105_2
                  clear hi105_2 hl105_2
                  replace p105 := eq_true p105
                  replace q105 := eq_true q105
                  go_wp2_with (first | ((with_reducible refine gate_dst (N := 7) rfl ?_); refine box_event ?hg (N := 7) ?hd (cs := #[.int .i64 0, .int .i64 0, .slice none 0 0]) (t := 60) ?hr ?_; (case hd => rfl); (case hg => rfl); (case hr => first | (go_simp; done) | (go_simp; rfl)); intro gb106 hg w15 hbox hb; have n0_ := mz (Kd.R_below (by (with_reducible repeat (first | apply Kd.R_alloc | apply Kd.R_drewN | apply Kd.R_drew)); exact HO_4.out) hb); have n1_ := mz (blk_below (g := gb101) (o := .cells #[.string a0_0, .string a0_1, .slice (some ad105) l0_2.length c0_2] 49 (0, 0)) (by (with_reducible repeat (first | refine blk_drewN ?_ _ | refine blk_drew ?_ | refine blk_alloc ?_ _)); exact BK101.out) hb); have n2_ := mz (below_step (by repeat (first | (with_reducible first | exact HB.out | apply below_alloc | apply pw_below_drewN | apply below_drew1 | refine below_set ?_ GE101.out) | exact HB.out)) hb); have n3_ := mz (hbox); have n4_ := mz ((by rw [hg]; exact (below_size (by repeat (first | (with_reducible first | exact HB.out | apply below_alloc | apply pw_below_drewN | apply below_drew1 | refine below_set ?_ GE101.out) | exact HB.out))) : w.heap.size ≤ gb106)); have n5_ := mz ((by rw [hg]; exact (below_size (by repeat (first | (with_reducible first | exact HB.out | apply below_alloc | apply pw_below_drewN | apply below_drew1 | refine below_set ?_ GE101.out) | exact HB.out))) : w.heap.size ≤ gb106)); have n6_ := mz ((by rw [hg]; exact Nat.ne_of_lt (blk_lt (g := gb101) (o := .cells #[.string a0_0, .string a0_1, .slice (some ad105) l0_2.length c0_2] 49 (0, 0)) (by (with_reducible repeat (first | refine blk_drewN ?_ _ | refine blk_drew ?_ | refine blk_alloc ?_ _)); exact BK101.out)) : gb101 ≠ gb106)); have n7_ := mz ((by rw [hg]; exact Nat.ne_of_gt (blk_lt (g := gb101) (o := .cells #[.string a0_0, .string a0_1, .slice (some ad105) l0_2.length c0_2] 49 (0, 0)) (by (with_reducible repeat (first | refine blk_drewN ?_ _ | refine blk_drew ?_ | refine blk_alloc ?_ _)); exact BK101.out)) : gb106 ≠ gb101)); clear HO_4; clear BK101; clear HB; have HO_4 := n0_; have BK101 := n1_; have HB := n2_; have BK106 := n3_; have GW106 := n4_; have GE106 := n5_; have NB101_106 := n6_; have NB106_101 := n7_; clear n0_ n1_ n2_ n3_ n4_ n5_ n6_ n7_; clear hb hbox hg; have hnb16 := NB106_101.out; have hnc16 := NB101_106.out; have hcz17_0 : w15.cell? ⟨gb106, 0, none⟩ = some (.int .i64 0) := (blk_cell BK106.out 0).trans rfl; have hcz17_1 : w15.cell? ⟨gb106, 1, none⟩ = some (.int .i64 0) := (blk_cell BK106.out 1).trans rfl; have hcz17_2 : w15.cell? ⟨gb106, 2, none⟩ = some (.slice none 0 0) := (blk_cell BK106.out 2).trans rfl; have hfz17_0 := blk_frozen BK106.out 0; have hfz17_1 := blk_frozen BK106.out 1; have hfz17_2 := blk_frozen BK106.out 2) | ((with_reducible refine gate_callee (f := 38) rfl ?_); refine goesL_ (some 26) rfl rfl Try.func38 (by kernel_rfl) rfl #[.slice A105_2 ((rd_T60 l0_2 x18_1).f2).length c105_2, .string x5_1] rfl (by (try simp only [List.map_toArray, List.map_cons, List.map_nil]); first | done | rfl | (simp only [List.length_drop, List.length_take]; rfl)) ?_; (with_reducible refine (spec_l3Apply.calls k1 _ _ ((rd_T60 l0_2 x18_1).f2) x5_1 t107 true _ ?side1 ?side2 A10.out).mono ?_); (case side1 => exact Kd.C_below HR105_2.out (by repeat (first | (with_reducible first | exact HB.out | apply below_alloc | apply pw_below_drewN | apply below_drew1 | refine below_set ?_ GE101.out | refine below_set ?_ GE106.out) | exact HB.out))); (case side2 => exact HC105_2.out); rintro e w18 ⟨rfl, hb⟩; refine ⟨_, rfl, ?_⟩; have n0_ := mz (Kd.R_below (by (with_reducible repeat (first | apply Kd.R_alloc | apply Kd.R_drewN | apply Kd.R_drew)); exact (Kd.R_mono (Kd.R_far (p := ⟨gb106, 2, none⟩) (Kd.R_far (p := ⟨gb106, 1, none⟩) (Kd.R_far (p := ⟨gb106, 0, none⟩) (Kd.R_types HO_4.out BK106.out (by decide)) (fun _ hk => hk.2) (.int .i64 ((rd_T60 l0_2 x18_1).f0))) (fun _ hk => hk.2) (.int .i64 ((rd_T60 l0_2 x18_1).f1))) (fun _ hk => hk.2) (.slice A105_2 ((rd_T60 l0_2 x18_1).f2).length c105_2)) (fun _ h_ => h_.1))) hb); have n1_ := mz (blk_below (g := gb101) (o := .cells #[.string a0_0, .string a0_1, .slice (some ad105) l0_2.length c0_2] 49 (0, 0)) (by (with_reducible repeat (first | refine blk_drewN ?_ _ | refine blk_drew ?_ | refine blk_alloc ?_ _)); refine blk_far ?_ NB101_106.out _; (with_reducible repeat (first | refine blk_drewN ?_ _ | refine blk_drew ?_ | refine blk_alloc ?_ _)); refine blk_far ?_ NB101_106.out _; (with_reducible repeat (first | refine blk_drewN ?_ _ | refine blk_drew ?_ | refine blk_alloc ?_ _)); refine blk_far ?_ NB101_106.out _; (with_reducible repeat (first | refine blk_drewN ?_ _ | refine blk_drew ?_ | refine blk_alloc ?_ _)); exact BK101.out) hb); have n2_ := mz (blk_below (g := gb106) (o := .cells #[.int .i64 ((rd_T60 l0_2 x18_1).f0), .int .i64 ((rd_T60 l0_2 x18_1).f1), .slice A105_2 ((rd_T60 l0_2 x18_1).f2).length c105_2] 60 (0, 0)) (by (with_reducible repeat (first | refine blk_drewN ?_ _ | refine blk_drew ?_ | refine blk_alloc ?_ _)); refine blk_put (cs := #[.int .i64 ((rd_T60 l0_2 x18_1).f0), .int .i64 ((rd_T60 l0_2 x18_1).f1), .slice none 0 0]) ?_ 2 _ rfl; (with_reducible repeat (first | refine blk_drewN ?_ _ | refine blk_drew ?_ | refine blk_alloc ?_ _)); refine blk_put (cs := #[.int .i64 ((rd_T60 l0_2 x18_1).f0), .int .i64 0, .slice none 0 0]) ?_ 1 _ rfl; (with_reducible repeat (first | refine blk_drewN ?_ _ | refine blk_drew ?_ | refine blk_alloc ?_ _)); refine blk_put (cs := #[.int .i64 0, .int .i64 0, .slice none 0 0]) ?_ 0 _ rfl; (with_reducible repeat (first | refine blk_drewN ?_ _ | refine blk_drew ?_ | refine blk_alloc ?_ _)); exact BK106.out) hb); have n3_ := mz (below_step (by repeat (first | (with_reducible first | exact HB.out | apply below_alloc | apply pw_below_drewN | apply below_drew1 | refine below_set ?_ GE101.out | refine below_set ?_ GE106.out) | exact HB.out)) hb); clear HO_4; clear BK101; clear BK106; clear HB; have HO_4 := n0_; have BK101 := n1_; have BK106 := n2_; have HB := n3_; clear n0_ n1_ n2_ n3_; (try clear hb); (try clear hb2); (try clear hk); (try clear hi)) | (go_at_call 71; (with_reducible refine (spec_GoodText.calls k1 t107 true _ A12.out).mono ?_); rintro e w' ⟨rfl, ⟨nd, rfl⟩⟩) | ((with_reducible refine gate_builtin (b := .append) (xs := #[.tmp 37, .tmp 39]) rfl ?_); at_builtin; refine Kd.R_append Kd.string (w0 := w) w.heap.size rfl (.tmp 37) (.tmp 39) 91 9 (.string ⟨#[]⟩) 16 rfl Try.underlying91 info9 rfl (by decide) (by omega) u4 x4_1 t107 [.string t107] (fun _ => True) (fun _ => False) rfl rfl ?aP (fun _ hk => hk.elim) ?aF ?aO ?aB ?aS ?aL ?_; (case aP => exact rfl); (case aB => exact (by repeat (first | (with_reducible first | exact HB.out | apply below_alloc | apply pw_below_drewN | apply below_drew1 | refine below_set ?_ GE101.out | refine below_set ?_ GE106.out) | exact HB.out))); (case aF => exact (fun _ _ => trivial)); (case aO => exact (by (with_reducible repeat (first | apply Kd.R_alloc | apply Kd.R_drewN | apply Kd.R_drew)); exact HO_4.out)); (case aS => exact (below_size (by repeat (first | (with_reducible first | exact HB.out | apply below_alloc | apply pw_below_drewN | apply below_drew1 | refine below_set ?_ GE101.out | refine below_set ?_ GE106.out) | exact HB.out)))); (case aL => have := LMc14.out; omega); intro v111 w19 ho hb hg hat; rw [← Ny110.out] at ho; have n0_ := mz (blk_grown (g := gb101) (o := .cells #[.string a0_0, .string a0_1, .slice (some ad105) l0_2.length c0_2] 49 (0, 0)) (by (with_reducible repeat (first | refine blk_drewN ?_ _ | refine blk_drew ?_ | refine blk_alloc ?_ _)); exact BK101.out) hg (Kd.R_ne HO_4.out BK101.out (by decide))); have n1_ := mz (blk_grown (g := gb106) (o := .cells #[.int .i64 ((rd_T60 l0_2 x18_1).f0), .int .i64 ((rd_T60 l0_2 x18_1).f1), .slice A105_2 ((rd_T60 l0_2 x18_1).f2).length c105_2] 60 (0, 0)) (by (with_reducible repeat (first | refine blk_drewN ?_ _ | refine blk_drew ?_ | refine blk_alloc ?_ _)); exact BK106.out) hg (Kd.R_ne HO_4.out BK106.out (by decide))); have n2_ := mz (hb); have n3_ := mz (ho); clear BK101; clear BK106; clear HB; clear HO_4; have BK101 := n0_; have BK106 := n1_; have HB := n2_; have HO112 := n3_; clear n0_ n1_ n2_ n3_; clear ho hb hg hat))
                  go_roundg k1
                  case measure => have := HK1.out; omega
                  case rel => exact ⟨(y110), (t107), (wrap64 (x18_1 + 1)), (by first | rfl | (simp; done) | (simp [*]; done)), (by first | rfl | (simp; done) | (simp [*]; done)), H', ⟨by have := HK1.out; omega⟩, ⟨by (with_reducible repeat (first | apply Kd.R_alloc | apply Kd.R_drewN | apply Kd.R_drew)); exact HO112.out⟩, ⟨by (with_reducible repeat (first | refine blk_drewN ?_ _ | refine blk_drew ?_ | refine blk_alloc ?_ _)); exact BK101.out⟩, ⟨by repeat (first | (with_reducible first | exact HB.out | apply below_alloc | apply pw_below_drewN | apply below_drew1 | refine below_set ?_ GE101.out | refine below_set ?_ GE106.out) | exact HB.out)⟩⟩
                · rw [if_neg c14] at H
                  exact absurd H (by simp)
              · replace c13 := Bool.eq_false_iff.mpr c13
                subst c13
                have H1 : (some (([] : List ByteArray), false)) = some (r1, r2) := by rw [if_neg (show ¬ (false = true) by decide)] at H; exact H
                clear H
                have H := H1
                clear H1
                simp only [Option.some.injEq, Prod.mk.injEq] at H
                obtain ⟨rfl, rfl⟩ := H
                have p105 : 0 ≤ (x18_1 : Int) := of_decide_eq_true (by first | (with_reducible assumption) | assumption)
                have q105 : x18_1 < (l0_2.length : Int) := of_decide_eq_true (by first | (with_reducible assumption) | assumption)
                obtain ⟨ad105, A105_2, c105_2, e105, hx105_0, hx105_1, hx105_2, hl105_2, hi105_2⟩ := at_T60 HR0_2.out x18_1 p105 q105
                cases e105
                replace hx105_0 := bc_ HB.out hx105_0
                replace hx105_1 := bc_ HB.out hx105_1
                replace hx105_2 := bc_ HB.out hx105_2
                have HR105_2 := mz hi105_2
                have HC105_2 := mz hl105_2
                clear hi105_2 hl105_2
                replace p105 := eq_true p105
                replace q105 := eq_true q105
                go_wp2_with (first | ((with_reducible refine gate_dst (N := 7) rfl ?_); refine box_event ?hg (N := 7) ?hd (cs := #[.int .i64 0, .int .i64 0, .slice none 0 0]) (t := 60) ?hr ?_; (case hd => rfl); (case hg => rfl); (case hr => first | (go_simp; done) | (go_simp; rfl)); intro gb106 hg w20 hbox hb; have n0_ := mz (Kd.R_below (by (with_reducible repeat (first | apply Kd.R_alloc | apply Kd.R_drewN | apply Kd.R_drew)); exact HO_4.out) hb); have n1_ := mz (blk_below (g := gb101) (o := .cells #[.string a0_0, .string a0_1, .slice (some ad105) l0_2.length c0_2] 49 (0, 0)) (by (with_reducible repeat (first | refine blk_drewN ?_ _ | refine blk_drew ?_ | refine blk_alloc ?_ _)); exact BK101.out) hb); have n2_ := mz (below_step (by repeat (first | (with_reducible first | exact HB.out | apply below_alloc | apply pw_below_drewN | apply below_drew1 | refine below_set ?_ GE101.out) | exact HB.out)) hb); have n3_ := mz (hbox); have n4_ := mz ((by rw [hg]; exact (below_size (by repeat (first | (with_reducible first | exact HB.out | apply below_alloc | apply pw_below_drewN | apply below_drew1 | refine below_set ?_ GE101.out) | exact HB.out))) : w.heap.size ≤ gb106)); have n5_ := mz ((by rw [hg]; exact (below_size (by repeat (first | (with_reducible first | exact HB.out | apply below_alloc | apply pw_below_drewN | apply below_drew1 | refine below_set ?_ GE101.out) | exact HB.out))) : w.heap.size ≤ gb106)); have n6_ := mz ((by rw [hg]; exact Nat.ne_of_lt (blk_lt (g := gb101) (o := .cells #[.string a0_0, .string a0_1, .slice (some ad105) l0_2.length c0_2] 49 (0, 0)) (by (with_reducible repeat (first | refine blk_drewN ?_ _ | refine blk_drew ?_ | refine blk_alloc ?_ _)); exact BK101.out)) : gb101 ≠ gb106)); have n7_ := mz ((by rw [hg]; exact Nat.ne_of_gt (blk_lt (g := gb101) (o := .cells #[.string a0_0, .string a0_1, .slice (some ad105) l0_2.length c0_2] 49 (0, 0)) (by (with_reducible repeat (first | refine blk_drewN ?_ _ | refine blk_drew ?_ | refine blk_alloc ?_ _)); exact BK101.out)) : gb106 ≠ gb101)); clear HO_4; clear BK101; clear HB; have HO_4 := n0_; have BK101 := n1_; have HB := n2_; have BK106 := n3_; have GW106 := n4_; have GE106 := n5_; have NB101_106 := n6_; have NB106_101 := n7_; clear n0_ n1_ n2_ n3_ n4_ n5_ n6_ n7_; clear hb hbox hg; have hnb21 := NB106_101.out; have hnc21 := NB101_106.out; have hcz22_0 : w20.cell? ⟨gb106, 0, none⟩ = some (.int .i64 0) := (blk_cell BK106.out 0).trans rfl; have hcz22_1 : w20.cell? ⟨gb106, 1, none⟩ = some (.int .i64 0) := (blk_cell BK106.out 1).trans rfl; have hcz22_2 : w20.cell? ⟨gb106, 2, none⟩ = some (.slice none 0 0) := (blk_cell BK106.out 2).trans rfl; have hfz22_0 := blk_frozen BK106.out 0; have hfz22_1 := blk_frozen BK106.out 1; have hfz22_2 := blk_frozen BK106.out 2) | ((with_reducible refine gate_callee (f := 38) rfl ?_); refine goesL_ (some 26) rfl rfl Try.func38 (by kernel_rfl) rfl #[.slice A105_2 ((rd_T60 l0_2 x18_1).f2).length c105_2, .string x5_1] rfl (by (try simp only [List.map_toArray, List.map_cons, List.map_nil]); first | done | rfl | (simp only [List.length_drop, List.length_take]; rfl)) ?_; (with_reducible refine (spec_l3Apply.calls k1 _ _ ((rd_T60 l0_2 x18_1).f2) x5_1 t107 true _ ?side1 ?side2 A10.out).mono ?_); (case side1 => exact Kd.C_below HR105_2.out (by repeat (first | (with_reducible first | exact HB.out | apply below_alloc | apply pw_below_drewN | apply below_drew1 | refine below_set ?_ GE101.out | refine below_set ?_ GE106.out) | exact HB.out))); (case side2 => exact HC105_2.out); rintro e w23 ⟨rfl, hb⟩; refine ⟨_, rfl, ?_⟩; have n0_ := mz (Kd.R_below (by (with_reducible repeat (first | apply Kd.R_alloc | apply Kd.R_drewN | apply Kd.R_drew)); exact (Kd.R_mono (Kd.R_far (p := ⟨gb106, 2, none⟩) (Kd.R_far (p := ⟨gb106, 1, none⟩) (Kd.R_far (p := ⟨gb106, 0, none⟩) (Kd.R_types HO_4.out BK106.out (by decide)) (fun _ hk => hk.2) (.int .i64 ((rd_T60 l0_2 x18_1).f0))) (fun _ hk => hk.2) (.int .i64 ((rd_T60 l0_2 x18_1).f1))) (fun _ hk => hk.2) (.slice A105_2 ((rd_T60 l0_2 x18_1).f2).length c105_2)) (fun _ h_ => h_.1))) hb); have n1_ := mz (blk_below (g := gb101) (o := .cells #[.string a0_0, .string a0_1, .slice (some ad105) l0_2.length c0_2] 49 (0, 0)) (by (with_reducible repeat (first | refine blk_drewN ?_ _ | refine blk_drew ?_ | refine blk_alloc ?_ _)); refine blk_far ?_ NB101_106.out _; (with_reducible repeat (first | refine blk_drewN ?_ _ | refine blk_drew ?_ | refine blk_alloc ?_ _)); refine blk_far ?_ NB101_106.out _; (with_reducible repeat (first | refine blk_drewN ?_ _ | refine blk_drew ?_ | refine blk_alloc ?_ _)); refine blk_far ?_ NB101_106.out _; (with_reducible repeat (first | refine blk_drewN ?_ _ | refine blk_drew ?_ | refine blk_alloc ?_ _)); exact BK101.out) hb); have n2_ := mz (blk_below (g := gb106) (o := .cells #[.int .i64 ((rd_T60 l0_2 x18_1).f0), .int .i64 ((rd_T60 l0_2 x18_1).f1), .slice A105_2 ((rd_T60 l0_2 x18_1).f2).length c105_2] 60 (0, 0)) (by (with_reducible repeat (first | refine blk_drewN ?_ _ | refine blk_drew ?_ | refine blk_alloc ?_ _)); refine blk_put (cs := #[.int .i64 ((rd_T60 l0_2 x18_1).f0), .int .i64 ((rd_T60 l0_2 x18_1).f1), .slice none 0 0]) ?_ 2 _ rfl; (with_reducible repeat (first | refine blk_drewN ?_ _ | refine blk_drew ?_ | refine blk_alloc ?_ _)); refine blk_put (cs := #[.int .i64 ((rd_T60 l0_2 x18_1).f0), .int .i64 0, .slice none 0 0]) ?_ 1 _ rfl; (with_reducible repeat (first | refine blk_drewN ?_ _ | refine blk_drew ?_ | refine blk_alloc ?_ _)); refine blk_put (cs := #[.int .i64 0, .int .i64 0, .slice none 0 0]) ?_ 0 _ rfl; (with_reducible repeat (first | refine blk_drewN ?_ _ | refine blk_drew ?_ | refine blk_alloc ?_ _)); exact BK106.out) hb); have n3_ := mz (below_step (by repeat (first | (with_reducible first | exact HB.out | apply below_alloc | apply pw_below_drewN | apply below_drew1 | refine below_set ?_ GE101.out | refine below_set ?_ GE106.out) | exact HB.out)) hb); clear HO_4; clear BK101; clear BK106; clear HB; have HO_4 := n0_; have BK101 := n1_; have BK106 := n2_; have HB := n3_; clear n0_ n1_ n2_ n3_; (try clear hb); (try clear hb2); (try clear hk); (try clear hi)) | (go_at_call 71; (with_reducible refine (spec_GoodText.calls k1 t107 false _ A12.out).mono ?_); rintro e w' ⟨rfl, ⟨nd, rfl⟩⟩))
                go_ret2
                exact ⟨_, by first | rfl | (simp [errW_none, errW_some] <;> rfl) | (simp [*, errW_none, errW_some] <;> rfl), by first | exact Kd.R_nil _ _ _ _ _ | exact Kd.N_nil _ _ _ _ _ | exact Kd.V_nil _ _ _ _ _ | exact Kd.Q_nil _ _ _ _ _ | exact Kd.S_nil _ _ _ _ _, by repeat (first | (with_reducible first | exact HB.out | apply below_alloc | apply pw_below_drewN | apply below_drew1 | refine below_set ?_ GE101.out | refine below_set ?_ GE106.out) | exact HB.out)⟩
            · replace c11 := Bool.eq_false_iff.mpr c11
              subst c11
              have H1 : (some (([] : List ByteArray), false)) = some (r1, r2) := by rw [if_neg (show ¬ (false = true) by decide)] at H; exact H
              clear H
              have H := H1
              clear H1
              simp only [Option.some.injEq, Prod.mk.injEq] at H
              obtain ⟨rfl, rfl⟩ := H
              have p105 : 0 ≤ (x18_1 : Int) := of_decide_eq_true (by first | (with_reducible assumption) | assumption)
              have q105 : x18_1 < (l0_2.length : Int) := of_decide_eq_true (by first | (with_reducible assumption) | assumption)
              obtain ⟨ad105, A105_2, c105_2, e105, hx105_0, hx105_1, hx105_2, hl105_2, hi105_2⟩ := at_T60 HR0_2.out x18_1 p105 q105
              cases e105
              replace hx105_0 := bc_ HB.out hx105_0
              replace hx105_1 := bc_ HB.out hx105_1
              replace hx105_2 := bc_ HB.out hx105_2
              have HR105_2 := mz hi105_2
              have HC105_2 := mz hl105_2
              clear hi105_2 hl105_2
              replace p105 := eq_true p105
              replace q105 := eq_true q105
              go_wp2_with (first | ((with_reducible refine gate_dst (N := 7) rfl ?_); refine box_event ?hg (N := 7) ?hd (cs := #[.int .i64 0, .int .i64 0, .slice none 0 0]) (t := 60) ?hr ?_; (case hd => rfl); (case hg => rfl); (case hr => first | (go_simp; done) | (go_simp; rfl)); intro gb106 hg w24 hbox hb; have n0_ := mz (Kd.R_below (by (with_reducible repeat (first | apply Kd.R_alloc | apply Kd.R_drewN | apply Kd.R_drew)); exact HO_4.out) hb); have n1_ := mz (blk_below (g := gb101) (o := .cells #[.string a0_0, .string a0_1, .slice (some ad105) l0_2.length c0_2] 49 (0, 0)) (by (with_reducible repeat (first | refine blk_drewN ?_ _ | refine blk_drew ?_ | refine blk_alloc ?_ _)); exact BK101.out) hb); have n2_ := mz (below_step (by repeat (first | (with_reducible first | exact HB.out | apply below_alloc | apply pw_below_drewN | apply below_drew1 | refine below_set ?_ GE101.out) | exact HB.out)) hb); have n3_ := mz (hbox); have n4_ := mz ((by rw [hg]; exact (below_size (by repeat (first | (with_reducible first | exact HB.out | apply below_alloc | apply pw_below_drewN | apply below_drew1 | refine below_set ?_ GE101.out) | exact HB.out))) : w.heap.size ≤ gb106)); have n5_ := mz ((by rw [hg]; exact (below_size (by repeat (first | (with_reducible first | exact HB.out | apply below_alloc | apply pw_below_drewN | apply below_drew1 | refine below_set ?_ GE101.out) | exact HB.out))) : w.heap.size ≤ gb106)); have n6_ := mz ((by rw [hg]; exact Nat.ne_of_lt (blk_lt (g := gb101) (o := .cells #[.string a0_0, .string a0_1, .slice (some ad105) l0_2.length c0_2] 49 (0, 0)) (by (with_reducible repeat (first | refine blk_drewN ?_ _ | refine blk_drew ?_ | refine blk_alloc ?_ _)); exact BK101.out)) : gb101 ≠ gb106)); have n7_ := mz ((by rw [hg]; exact Nat.ne_of_gt (blk_lt (g := gb101) (o := .cells #[.string a0_0, .string a0_1, .slice (some ad105) l0_2.length c0_2] 49 (0, 0)) (by (with_reducible repeat (first | refine blk_drewN ?_ _ | refine blk_drew ?_ | refine blk_alloc ?_ _)); exact BK101.out)) : gb106 ≠ gb101)); clear HO_4; clear BK101; clear HB; have HO_4 := n0_; have BK101 := n1_; have HB := n2_; have BK106 := n3_; have GW106 := n4_; have GE106 := n5_; have NB101_106 := n6_; have NB106_101 := n7_; clear n0_ n1_ n2_ n3_ n4_ n5_ n6_ n7_; clear hb hbox hg; have hnb25 := NB106_101.out; have hnc25 := NB101_106.out; have hcz26_0 : w24.cell? ⟨gb106, 0, none⟩ = some (.int .i64 0) := (blk_cell BK106.out 0).trans rfl; have hcz26_1 : w24.cell? ⟨gb106, 1, none⟩ = some (.int .i64 0) := (blk_cell BK106.out 1).trans rfl; have hcz26_2 : w24.cell? ⟨gb106, 2, none⟩ = some (.slice none 0 0) := (blk_cell BK106.out 2).trans rfl; have hfz26_0 := blk_frozen BK106.out 0; have hfz26_1 := blk_frozen BK106.out 1; have hfz26_2 := blk_frozen BK106.out 2) | ((with_reducible refine gate_callee (f := 38) rfl ?_); refine goesL_ (some 26) rfl rfl Try.func38 (by kernel_rfl) rfl #[.slice A105_2 ((rd_T60 l0_2 x18_1).f2).length c105_2, .string x5_1] rfl (by (try simp only [List.map_toArray, List.map_cons, List.map_nil]); first | done | rfl | (simp only [List.length_drop, List.length_take]; rfl)) ?_; (with_reducible refine (spec_l3Apply.calls k1 _ _ ((rd_T60 l0_2 x18_1).f2) x5_1 t107 false _ ?side1 ?side2 A10.out).mono ?_); (case side1 => exact Kd.C_below HR105_2.out (by repeat (first | (with_reducible first | exact HB.out | apply below_alloc | apply pw_below_drewN | apply below_drew1 | refine below_set ?_ GE101.out | refine below_set ?_ GE106.out) | exact HB.out))); (case side2 => exact HC105_2.out); rintro e w27 ⟨rfl, hb⟩; refine ⟨_, rfl, ?_⟩; have n0_ := mz (Kd.R_below (by (with_reducible repeat (first | apply Kd.R_alloc | apply Kd.R_drewN | apply Kd.R_drew)); exact (Kd.R_mono (Kd.R_far (p := ⟨gb106, 2, none⟩) (Kd.R_far (p := ⟨gb106, 1, none⟩) (Kd.R_far (p := ⟨gb106, 0, none⟩) (Kd.R_types HO_4.out BK106.out (by decide)) (fun _ hk => hk.2) (.int .i64 ((rd_T60 l0_2 x18_1).f0))) (fun _ hk => hk.2) (.int .i64 ((rd_T60 l0_2 x18_1).f1))) (fun _ hk => hk.2) (.slice A105_2 ((rd_T60 l0_2 x18_1).f2).length c105_2)) (fun _ h_ => h_.1))) hb); have n1_ := mz (blk_below (g := gb101) (o := .cells #[.string a0_0, .string a0_1, .slice (some ad105) l0_2.length c0_2] 49 (0, 0)) (by (with_reducible repeat (first | refine blk_drewN ?_ _ | refine blk_drew ?_ | refine blk_alloc ?_ _)); refine blk_far ?_ NB101_106.out _; (with_reducible repeat (first | refine blk_drewN ?_ _ | refine blk_drew ?_ | refine blk_alloc ?_ _)); refine blk_far ?_ NB101_106.out _; (with_reducible repeat (first | refine blk_drewN ?_ _ | refine blk_drew ?_ | refine blk_alloc ?_ _)); refine blk_far ?_ NB101_106.out _; (with_reducible repeat (first | refine blk_drewN ?_ _ | refine blk_drew ?_ | refine blk_alloc ?_ _)); exact BK101.out) hb); have n2_ := mz (blk_below (g := gb106) (o := .cells #[.int .i64 ((rd_T60 l0_2 x18_1).f0), .int .i64 ((rd_T60 l0_2 x18_1).f1), .slice A105_2 ((rd_T60 l0_2 x18_1).f2).length c105_2] 60 (0, 0)) (by (with_reducible repeat (first | refine blk_drewN ?_ _ | refine blk_drew ?_ | refine blk_alloc ?_ _)); refine blk_put (cs := #[.int .i64 ((rd_T60 l0_2 x18_1).f0), .int .i64 ((rd_T60 l0_2 x18_1).f1), .slice none 0 0]) ?_ 2 _ rfl; (with_reducible repeat (first | refine blk_drewN ?_ _ | refine blk_drew ?_ | refine blk_alloc ?_ _)); refine blk_put (cs := #[.int .i64 ((rd_T60 l0_2 x18_1).f0), .int .i64 0, .slice none 0 0]) ?_ 1 _ rfl; (with_reducible repeat (first | refine blk_drewN ?_ _ | refine blk_drew ?_ | refine blk_alloc ?_ _)); refine blk_put (cs := #[.int .i64 0, .int .i64 0, .slice none 0 0]) ?_ 0 _ rfl; (with_reducible repeat (first | refine blk_drewN ?_ _ | refine blk_drew ?_ | refine blk_alloc ?_ _)); exact BK106.out) hb); have n3_ := mz (below_step (by repeat (first | (with_reducible first | exact HB.out | apply below_alloc | apply pw_below_drewN | apply below_drew1 | refine below_set ?_ GE101.out | refine below_set ?_ GE106.out) | exact HB.out)) hb); clear HO_4; clear BK101; clear BK106; clear HB; have HO_4 := n0_; have BK101 := n1_; have BK106 := n2_; have HB := n3_; clear n0_ n1_ n2_ n3_; (try clear hb); (try clear hb2); (try clear hk); (try clear hi)))
              go_ret2
              exact ⟨_, by first | rfl | (simp [errW_none, errW_some] <;> rfl) | (simp [*, errW_none, errW_some] <;> rfl), by first | exact Kd.R_nil _ _ _ _ _ | exact Kd.N_nil _ _ _ _ _ | exact Kd.V_nil _ _ _ _ _ | exact Kd.Q_nil _ _ _ _ _ | exact Kd.S_nil _ _ _ _ _, by repeat (first | (with_reducible first | exact HB.out | apply below_alloc | apply pw_below_drewN | apply below_drew1 | refine below_set ?_ GE101.out | refine below_set ?_ GE106.out) | exact HB.out)⟩
          · rw [if_neg c9] at H
            exact absurd H (by simp)
        · rw [if_neg c8] at H
          exact absurd H (by simp)
      · rw [if_neg c7] at H
        have c7b0 : decide (x18_1 < (l0_2.length : Int)) = false := decide_eq_false c7
        clear c7
        simp only [Option.some.injEq, Prod.mk.injEq] at H
        obtain ⟨rfl, rfl⟩ := H
        go_wp2
        go_ret2
        exact ⟨_, by first | rfl | (simp [errW_none, errW_some] <;> rfl) | (simp [*, errW_none, errW_some] <;> rfl), by (with_reducible repeat (first | apply Kd.R_alloc | apply Kd.R_drewN | apply Kd.R_drew)); exact HO_4.out, by repeat (first | (with_reducible first | exact HB.out | apply below_alloc | apply pw_below_drewN | apply below_drew1 | refine below_set ?_ GE101.out) | exact HB.out)⟩
end
section
attribute [local go_sem] max2_int min2_int max_two min_two max_three min_three max_four min_four
def spec_l15Entry.f (k : Nat) (a0_0 : Int) (a0_1 : Int) (l0_2 : List (S76)) : Option (Bool) := (spec_l1In.f a0_0 0 9).bind fun t102 => (if t102 = true then ((spec_l1In.f a0_1 1 1000).bind fun t103 => (if t103 = true then ((spec_GoodOp.f k l0_2).bind fun t104 => (some t104)) else (some false))) else (some false))
set_option maxHeartbeats 8000000 in
set_option maxRecDepth 100000 in
theorem spec_l15Entry.calls (k : Nat) (a0_0 : Int) (a0_1 : Int) (A0_2 : Option Addr) (c0_2 : Nat) (l0_2 : List (S76)) (r : Bool) (w : World) (hr0_2 : Kd.C k76 w A0_2 l0_2.length l0_2) (hc0_2 : l0_2.length ≤ c0_2) (h : spec_l15Entry.f k a0_0 a0_1 l0_2 = some r) :
    Calls Try.prog 69 #[.agg #[.int .i64 a0_0, .int .i64 a0_1, .slice A0_2 l0_2.length c0_2]] w fun e w' => e = .returned (.bool r) ∧ Below w.heap.size w w' := by
  have hu60 := Try.underlying60
  have HR0_2 := mz hr0_2
  have HC0_2 := mz hc0_2
  clear hr0_2 hc0_2
  have HB := mz (Below.refl w.heap.size w)
  have H : ((spec_l1In.f a0_0 0 9).bind fun t102 => (if t102 = true then ((spec_l1In.f a0_1 1 1000).bind fun t103 => (if t103 = true then ((spec_GoodOp.f k l0_2).bind fun t104 => (some t104)) else (some false))) else (some false))) = some r := h
  clear h
  replace H := be0_ H
  obtain ⟨t102, A20, H⟩ := H
  replace H : (if t102 = true then ((spec_l1In.f a0_1 1 1000).bind fun t103 => (if t103 = true then ((spec_GoodOp.f k l0_2).bind fun t104 => (some t104)) else (some false))) else (some false)) = some r := H
  have A2 := mz A20
  clear A20
  by_cases c3 : t102 = true
  · subst c3
    have H1 : ((spec_l1In.f a0_1 1 1000).bind fun t103 => (if t103 = true then ((spec_GoodOp.f k l0_2).bind fun t104 => (some t104)) else (some false))) = some r := by rw [if_pos rfl] at H; exact H
    clear H
    have H := H1
    clear H1
    replace H := be0_ H
    obtain ⟨t103, A40, H⟩ := H
    replace H : (if t103 = true then ((spec_GoodOp.f k l0_2).bind fun t104 => (some t104)) else (some false)) = some r := H
    have A4 := mz A40
    clear A40
    by_cases c5 : t103 = true
    · subst c5
      have H1 : ((spec_GoodOp.f k l0_2).bind fun t104 => (some t104)) = some r := by rw [if_pos rfl] at H; exact H
      clear H
      have H := H1
      clear H1
      replace H := be0_ H
      obtain ⟨t104, A60, H⟩ := H
      replace H : (some t104) = some r := H
      have A6 := mz A60
      clear A60
      obtain rfl := Option.some.inj H
      go_enter Try.func69, Try.ntmps69
      go_wp2_with (first | ((with_reducible refine gate_dst (N := 1) rfl ?_); refine box_event ?hg (N := 1) ?hd (cs := #[.int .i64 a0_0, .int .i64 a0_1, .slice A0_2 l0_2.length c0_2]) (t := 60) ?hr ?_; (case hd => rfl); (case hg => rfl); (case hr => first | (go_simp; done) | (go_simp; rfl)); intro gb101 hg w7 hbox hb; have n0_ := mz (below_step (by repeat (first | (with_reducible first | exact HB.out | apply below_alloc | apply pw_below_drewN | apply below_drew1) | exact HB.out)) hb); have n1_ := mz (hbox); have n2_ := mz ((by rw [hg]; exact (below_size (by repeat (first | (with_reducible first | exact HB.out | apply below_alloc | apply pw_below_drewN | apply below_drew1) | exact HB.out))) : w.heap.size ≤ gb101)); have n3_ := mz ((by rw [hg]; exact (below_size (by repeat (first | (with_reducible first | exact HB.out | apply below_alloc | apply pw_below_drewN | apply below_drew1) | exact HB.out))) : w.heap.size ≤ gb101)); clear HB; have HB := n0_; have BK101 := n1_; have GW101 := n2_; have GE101 := n3_; clear n0_ n1_ n2_ n3_; clear hb hbox hg; have hcz8_0 : w7.cell? ⟨gb101, 0, none⟩ = some (.int .i64 a0_0) := (blk_cell BK101.out 0).trans rfl; have hcz8_1 : w7.cell? ⟨gb101, 1, none⟩ = some (.int .i64 a0_1) := (blk_cell BK101.out 1).trans rfl; have hcz8_2 : w7.cell? ⟨gb101, 2, none⟩ = some (.slice A0_2 l0_2.length c0_2) := (blk_cell BK101.out 2).trans rfl; have hfz8_0 := blk_frozen BK101.out 0; have hfz8_1 := blk_frozen BK101.out 1; have hfz8_2 := blk_frozen BK101.out 2) | ((with_reducible refine gate_callee (f := 57) rfl ?_); refine goesL_ (some 5) rfl rfl Try.func57 (by kernel_rfl) rfl #[.int .i64 a0_0, .int .i64 0, .int .i64 9] rfl (by (try simp only [List.map_toArray, List.map_cons, List.map_nil]); first | done | rfl | (simp only [List.length_drop, List.length_take]; rfl)) ?_; (with_reducible refine (spec_l1In.calls a0_0 0 9 true _ A2.out).mono ?_); rintro e w' ⟨rfl, ⟨nd, rfl⟩⟩; refine ⟨_, rfl, ?_⟩) | (go_at_call 57; (with_reducible refine (spec_l1In.calls a0_1 1 1000 true _ A4.out).mono ?_); rintro e w' ⟨rfl, ⟨nd, rfl⟩⟩) | (go_at_call 37; (with_reducible refine (spec_GoodOp.calls k _ _ l0_2 t104 _ ?side1 ?side2 A6.out).mono ?_); (case side1 => repeat (first | exact (Kd.C_below HR0_2.out (by repeat (first | (with_reducible first | exact HB.out | apply below_alloc | apply pw_below_drewN | apply below_drew1 | refine below_set ?_ GE101.out) | exact HB.out))) | (with_reducible refine Kd.C_alloc ?_ _) | (with_reducible refine Kd.C_drewN ?_ _) | (with_reducible refine Kd.C_drew ?_))); (case side2 => exact HC0_2.out); rintro e w9 ⟨rfl, hb⟩; have n0_ := mz (blk_below (g := gb101) (o := .cells #[.int .i64 a0_0, .int .i64 a0_1, .slice A0_2 l0_2.length c0_2] 60 (0, 0)) (by (with_reducible repeat (first | refine blk_drewN ?_ _ | refine blk_drew ?_ | refine blk_alloc ?_ _)); exact BK101.out) hb); have n1_ := mz (below_step (by repeat (first | (with_reducible first | exact HB.out | apply below_alloc | apply pw_below_drewN | apply below_drew1 | refine below_set ?_ GE101.out) | exact HB.out)) hb); clear BK101; clear HB; have BK101 := n0_; have HB := n1_; clear n0_ n1_; (try clear hb); (try clear hb2); (try clear hk); (try clear hi)))
      go_ret
      exact ⟨by first | rfl | (simp [errW_none, errW_some] <;> rfl) | (simp [*, errW_none, errW_some] <;> rfl), by repeat (first | (with_reducible first | exact HB.out | apply below_alloc | apply pw_below_drewN | apply below_drew1 | refine below_set ?_ GE101.out) | exact HB.out)⟩
    · replace c5 := Bool.eq_false_iff.mpr c5
      subst c5
      have H1 : (some false) = some r := by rw [if_neg (show ¬ (false = true) by decide)] at H; exact H
      clear H
      have H := H1
      clear H1
      obtain rfl := Option.some.inj H
      go_enter Try.func69, Try.ntmps69
      go_wp2_with (first | ((with_reducible refine gate_dst (N := 1) rfl ?_); refine box_event ?hg (N := 1) ?hd (cs := #[.int .i64 a0_0, .int .i64 a0_1, .slice A0_2 l0_2.length c0_2]) (t := 60) ?hr ?_; (case hd => rfl); (case hg => rfl); (case hr => first | (go_simp; done) | (go_simp; rfl)); intro gb101 hg w10 hbox hb; have n0_ := mz (below_step (by repeat (first | (with_reducible first | exact HB.out | apply below_alloc | apply pw_below_drewN | apply below_drew1) | exact HB.out)) hb); have n1_ := mz (hbox); have n2_ := mz ((by rw [hg]; exact (below_size (by repeat (first | (with_reducible first | exact HB.out | apply below_alloc | apply pw_below_drewN | apply below_drew1) | exact HB.out))) : w.heap.size ≤ gb101)); have n3_ := mz ((by rw [hg]; exact (below_size (by repeat (first | (with_reducible first | exact HB.out | apply below_alloc | apply pw_below_drewN | apply below_drew1) | exact HB.out))) : w.heap.size ≤ gb101)); clear HB; have HB := n0_; have BK101 := n1_; have GW101 := n2_; have GE101 := n3_; clear n0_ n1_ n2_ n3_; clear hb hbox hg; have hcz11_0 : w10.cell? ⟨gb101, 0, none⟩ = some (.int .i64 a0_0) := (blk_cell BK101.out 0).trans rfl; have hcz11_1 : w10.cell? ⟨gb101, 1, none⟩ = some (.int .i64 a0_1) := (blk_cell BK101.out 1).trans rfl; have hcz11_2 : w10.cell? ⟨gb101, 2, none⟩ = some (.slice A0_2 l0_2.length c0_2) := (blk_cell BK101.out 2).trans rfl; have hfz11_0 := blk_frozen BK101.out 0; have hfz11_1 := blk_frozen BK101.out 1; have hfz11_2 := blk_frozen BK101.out 2) | ((with_reducible refine gate_callee (f := 57) rfl ?_); refine goesL_ (some 5) rfl rfl Try.func57 (by kernel_rfl) rfl #[.int .i64 a0_0, .int .i64 0, .int .i64 9] rfl (by (try simp only [List.map_toArray, List.map_cons, List.map_nil]); first | done | rfl | (simp only [List.length_drop, List.length_take]; rfl)) ?_; (with_reducible refine (spec_l1In.calls a0_0 0 9 true _ A2.out).mono ?_); rintro e w' ⟨rfl, ⟨nd, rfl⟩⟩; refine ⟨_, rfl, ?_⟩) | (go_at_call 57; (with_reducible refine (spec_l1In.calls a0_1 1 1000 false _ A4.out).mono ?_); rintro e w' ⟨rfl, ⟨nd, rfl⟩⟩))
      go_ret
      exact ⟨by first | rfl | (simp [errW_none, errW_some] <;> rfl) | (simp [*, errW_none, errW_some] <;> rfl), by repeat (first | (with_reducible first | exact HB.out | apply below_alloc | apply pw_below_drewN | apply below_drew1 | refine below_set ?_ GE101.out) | exact HB.out)⟩
  · replace c3 := Bool.eq_false_iff.mpr c3
    subst c3
    have H1 : (some false) = some r := by rw [if_neg (show ¬ (false = true) by decide)] at H; exact H
    clear H
    have H := H1
    clear H1
    obtain rfl := Option.some.inj H
    go_enter Try.func69, Try.ntmps69
    go_wp2_with (first | ((with_reducible refine gate_dst (N := 1) rfl ?_); refine box_event ?hg (N := 1) ?hd (cs := #[.int .i64 a0_0, .int .i64 a0_1, .slice A0_2 l0_2.length c0_2]) (t := 60) ?hr ?_; (case hd => rfl); (case hg => rfl); (case hr => first | (go_simp; done) | (go_simp; rfl)); intro gb101 hg w12 hbox hb; have n0_ := mz (below_step (by repeat (first | (with_reducible first | exact HB.out | apply below_alloc | apply pw_below_drewN | apply below_drew1) | exact HB.out)) hb); have n1_ := mz (hbox); have n2_ := mz ((by rw [hg]; exact (below_size (by repeat (first | (with_reducible first | exact HB.out | apply below_alloc | apply pw_below_drewN | apply below_drew1) | exact HB.out))) : w.heap.size ≤ gb101)); have n3_ := mz ((by rw [hg]; exact (below_size (by repeat (first | (with_reducible first | exact HB.out | apply below_alloc | apply pw_below_drewN | apply below_drew1) | exact HB.out))) : w.heap.size ≤ gb101)); clear HB; have HB := n0_; have BK101 := n1_; have GW101 := n2_; have GE101 := n3_; clear n0_ n1_ n2_ n3_; clear hb hbox hg; have hcz13_0 : w12.cell? ⟨gb101, 0, none⟩ = some (.int .i64 a0_0) := (blk_cell BK101.out 0).trans rfl; have hcz13_1 : w12.cell? ⟨gb101, 1, none⟩ = some (.int .i64 a0_1) := (blk_cell BK101.out 1).trans rfl; have hcz13_2 : w12.cell? ⟨gb101, 2, none⟩ = some (.slice A0_2 l0_2.length c0_2) := (blk_cell BK101.out 2).trans rfl; have hfz13_0 := blk_frozen BK101.out 0; have hfz13_1 := blk_frozen BK101.out 1; have hfz13_2 := blk_frozen BK101.out 2) | ((with_reducible refine gate_callee (f := 57) rfl ?_); refine goesL_ (some 5) rfl rfl Try.func57 (by kernel_rfl) rfl #[.int .i64 a0_0, .int .i64 0, .int .i64 9] rfl (by (try simp only [List.map_toArray, List.map_cons, List.map_nil]); first | done | rfl | (simp only [List.length_drop, List.length_take]; rfl)) ?_; (with_reducible refine (spec_l1In.calls a0_0 0 9 false _ A2.out).mono ?_); rintro e w' ⟨rfl, ⟨nd, rfl⟩⟩; refine ⟨_, rfl, ?_⟩))
    go_ret
    exact ⟨by first | rfl | (simp [errW_none, errW_some] <;> rfl) | (simp [*, errW_none, errW_some] <;> rfl), by repeat (first | (with_reducible first | exact HB.out | apply below_alloc | apply pw_below_drewN | apply below_drew1 | refine below_set ?_ GE101.out) | exact HB.out)⟩
end
section
attribute [local go_sem] max2_int min2_int max_two min_two max_three min_three max_four min_four
def impl_isEntry.f (k : Nat) (a0_0 : Int) (a0_1 : Int) (l0_2 : List (S76)) : Option (Bool) := if a0_0 ≥ 0 then (if a0_0 ≤ 9 then (if a0_1 ≥ 1 then (if a0_1 ≤ 1000 then ((impl_GoodOp.f k l0_2).bind fun t102 => (some t102)) else (some false)) else (some false)) else (some false)) else (some false)
set_option maxHeartbeats 8000000 in
set_option maxRecDepth 100000 in
theorem impl_isEntry.calls (k : Nat) (a0_0 : Int) (a0_1 : Int) (A0_2 : Option Addr) (c0_2 : Nat) (l0_2 : List (S76)) (r : Bool) (w : World) (hr0_2 : Kd.C k76 w A0_2 l0_2.length l0_2) (hc0_2 : l0_2.length ≤ c0_2) (h : impl_isEntry.f k a0_0 a0_1 l0_2 = some r) :
    Calls Try.prog 74 #[.agg #[.int .i64 a0_0, .int .i64 a0_1, .slice A0_2 l0_2.length c0_2]] w fun e w' => e = .returned (.bool r) ∧ Below w.heap.size w w' := by
  have hu60 := Try.underlying60
  have HR0_2 := mz hr0_2
  have HC0_2 := mz hc0_2
  clear hr0_2 hc0_2
  have HB := mz (Below.refl w.heap.size w)
  have H : (if a0_0 ≥ 0 then (if a0_0 ≤ 9 then (if a0_1 ≥ 1 then (if a0_1 ≤ 1000 then ((impl_GoodOp.f k l0_2).bind fun t102 => (some t102)) else (some false)) else (some false)) else (some false)) else (some false)) = some r := h
  clear h
  by_cases c2 : a0_0 ≥ 0
  · rw [if_pos c2] at H
    have c2b0 : decide (0 ≤ a0_0) = true := decide_eq_true c2
    clear c2
    by_cases c3 : a0_0 ≤ 9
    · rw [if_pos c3] at H
      have c3b0 : decide (a0_0 ≤ 9) = true := decide_eq_true c3
      clear c3
      by_cases c4 : a0_1 ≥ 1
      · rw [if_pos c4] at H
        have c4b0 : decide (1 ≤ a0_1) = true := decide_eq_true c4
        clear c4
        by_cases c5 : a0_1 ≤ 1000
        · rw [if_pos c5] at H
          have c5b0 : decide (a0_1 ≤ 1000) = true := decide_eq_true c5
          clear c5
          replace H := be0_ H
          obtain ⟨t102, A60, H⟩ := H
          replace H : (some t102) = some r := H
          have A6 := mz A60
          clear A60
          obtain rfl := Option.some.inj H
          go_enter Try.func74, Try.ntmps74
          go_wp2_with (first | ((with_reducible refine gate_dst (N := 1) rfl ?_); refine box_event ?hg (N := 1) ?hd (cs := #[.int .i64 a0_0, .int .i64 a0_1, .slice A0_2 l0_2.length c0_2]) (t := 60) ?hr ?_; (case hd => rfl); (case hg => rfl); (case hr => first | (go_simp; done) | (go_simp; rfl)); intro gb101 hg w7 hbox hb; have n0_ := mz (below_step (by repeat (first | (with_reducible first | exact HB.out | apply below_alloc | apply pw_below_drewN | apply below_drew1) | exact HB.out)) hb); have n1_ := mz (hbox); have n2_ := mz ((by rw [hg]; exact (below_size (by repeat (first | (with_reducible first | exact HB.out | apply below_alloc | apply pw_below_drewN | apply below_drew1) | exact HB.out))) : w.heap.size ≤ gb101)); have n3_ := mz ((by rw [hg]; exact (below_size (by repeat (first | (with_reducible first | exact HB.out | apply below_alloc | apply pw_below_drewN | apply below_drew1) | exact HB.out))) : w.heap.size ≤ gb101)); clear HB; have HB := n0_; have BK101 := n1_; have GW101 := n2_; have GE101 := n3_; clear n0_ n1_ n2_ n3_; clear hb hbox hg; have hcz8_0 : w7.cell? ⟨gb101, 0, none⟩ = some (.int .i64 a0_0) := (blk_cell BK101.out 0).trans rfl; have hcz8_1 : w7.cell? ⟨gb101, 1, none⟩ = some (.int .i64 a0_1) := (blk_cell BK101.out 1).trans rfl; have hcz8_2 : w7.cell? ⟨gb101, 2, none⟩ = some (.slice A0_2 l0_2.length c0_2) := (blk_cell BK101.out 2).trans rfl; have hfz8_0 := blk_frozen BK101.out 0; have hfz8_1 := blk_frozen BK101.out 1; have hfz8_2 := blk_frozen BK101.out 2) | (go_at_call 90; (with_reducible refine (impl_GoodOp.calls k _ _ l0_2 t102 _ ?side1 ?side2 A6.out).mono ?_); (case side1 => repeat (first | exact (Kd.C_below HR0_2.out HB.out) | (with_reducible refine Kd.C_alloc ?_ _) | (with_reducible refine Kd.C_drewN ?_ _) | (with_reducible refine Kd.C_drew ?_))); (case side2 => exact HC0_2.out); rintro e w9 ⟨rfl, hb⟩; have n0_ := mz (blk_below (g := gb101) (o := .cells #[.int .i64 a0_0, .int .i64 a0_1, .slice A0_2 l0_2.length c0_2] 60 (0, 0)) (by (with_reducible repeat (first | refine blk_drewN ?_ _ | refine blk_drew ?_ | refine blk_alloc ?_ _)); exact BK101.out) hb); have n1_ := mz (below_step (by repeat (first | (with_reducible first | exact HB.out | apply below_alloc | apply pw_below_drewN | apply below_drew1 | refine below_set ?_ GE101.out) | exact HB.out)) hb); clear BK101; clear HB; have BK101 := n0_; have HB := n1_; clear n0_ n1_; (try clear hb); (try clear hb2); (try clear hk); (try clear hi)))
          go_ret
          exact ⟨by first | rfl | (simp [errW_none, errW_some] <;> rfl) | (simp [*, errW_none, errW_some] <;> rfl), by repeat (first | (with_reducible first | exact HB.out | apply below_alloc | apply pw_below_drewN | apply below_drew1 | refine below_set ?_ GE101.out) | exact HB.out)⟩
        · rw [if_neg c5] at H
          have c5b0 : decide (a0_1 ≤ 1000) = false := decide_eq_false c5
          clear c5
          obtain rfl := Option.some.inj H
          go_enter Try.func74, Try.ntmps74
          go_wp2_with (first | ((with_reducible refine gate_dst (N := 1) rfl ?_); refine box_event ?hg (N := 1) ?hd (cs := #[.int .i64 a0_0, .int .i64 a0_1, .slice A0_2 l0_2.length c0_2]) (t := 60) ?hr ?_; (case hd => rfl); (case hg => rfl); (case hr => first | (go_simp; done) | (go_simp; rfl)); intro gb101 hg w10 hbox hb; have n0_ := mz (below_step (by repeat (first | (with_reducible first | exact HB.out | apply below_alloc | apply pw_below_drewN | apply below_drew1) | exact HB.out)) hb); have n1_ := mz (hbox); have n2_ := mz ((by rw [hg]; exact (below_size (by repeat (first | (with_reducible first | exact HB.out | apply below_alloc | apply pw_below_drewN | apply below_drew1) | exact HB.out))) : w.heap.size ≤ gb101)); have n3_ := mz ((by rw [hg]; exact (below_size (by repeat (first | (with_reducible first | exact HB.out | apply below_alloc | apply pw_below_drewN | apply below_drew1) | exact HB.out))) : w.heap.size ≤ gb101)); clear HB; have HB := n0_; have BK101 := n1_; have GW101 := n2_; have GE101 := n3_; clear n0_ n1_ n2_ n3_; clear hb hbox hg; have hcz11_0 : w10.cell? ⟨gb101, 0, none⟩ = some (.int .i64 a0_0) := (blk_cell BK101.out 0).trans rfl; have hcz11_1 : w10.cell? ⟨gb101, 1, none⟩ = some (.int .i64 a0_1) := (blk_cell BK101.out 1).trans rfl; have hcz11_2 : w10.cell? ⟨gb101, 2, none⟩ = some (.slice A0_2 l0_2.length c0_2) := (blk_cell BK101.out 2).trans rfl; have hfz11_0 := blk_frozen BK101.out 0; have hfz11_1 := blk_frozen BK101.out 1; have hfz11_2 := blk_frozen BK101.out 2))
          go_ret
          exact ⟨by first | rfl | (simp [errW_none, errW_some] <;> rfl) | (simp [*, errW_none, errW_some] <;> rfl), by repeat (first | (with_reducible first | exact HB.out | apply below_alloc | apply pw_below_drewN | apply below_drew1 | refine below_set ?_ GE101.out) | exact HB.out)⟩
      · rw [if_neg c4] at H
        have c4b0 : decide (1 ≤ a0_1) = false := decide_eq_false c4
        clear c4
        obtain rfl := Option.some.inj H
        go_enter Try.func74, Try.ntmps74
        go_wp2_with (first | ((with_reducible refine gate_dst (N := 1) rfl ?_); refine box_event ?hg (N := 1) ?hd (cs := #[.int .i64 a0_0, .int .i64 a0_1, .slice A0_2 l0_2.length c0_2]) (t := 60) ?hr ?_; (case hd => rfl); (case hg => rfl); (case hr => first | (go_simp; done) | (go_simp; rfl)); intro gb101 hg w12 hbox hb; have n0_ := mz (below_step (by repeat (first | (with_reducible first | exact HB.out | apply below_alloc | apply pw_below_drewN | apply below_drew1) | exact HB.out)) hb); have n1_ := mz (hbox); have n2_ := mz ((by rw [hg]; exact (below_size (by repeat (first | (with_reducible first | exact HB.out | apply below_alloc | apply pw_below_drewN | apply below_drew1) | exact HB.out))) : w.heap.size ≤ gb101)); have n3_ := mz ((by rw [hg]; exact (below_size (by repeat (first | (with_reducible first | exact HB.out | apply below_alloc | apply pw_below_drewN | apply below_drew1) | exact HB.out))) : w.heap.size ≤ gb101)); clear HB; have HB := n0_; have BK101 := n1_; have GW101 := n2_; have GE101 := n3_; clear n0_ n1_ n2_ n3_; clear hb hbox hg; have hcz13_0 : w12.cell? ⟨gb101, 0, none⟩ = some (.int .i64 a0_0) := (blk_cell BK101.out 0).trans rfl; have hcz13_1 : w12.cell? ⟨gb101, 1, none⟩ = some (.int .i64 a0_1) := (blk_cell BK101.out 1).trans rfl; have hcz13_2 : w12.cell? ⟨gb101, 2, none⟩ = some (.slice A0_2 l0_2.length c0_2) := (blk_cell BK101.out 2).trans rfl; have hfz13_0 := blk_frozen BK101.out 0; have hfz13_1 := blk_frozen BK101.out 1; have hfz13_2 := blk_frozen BK101.out 2))
        go_ret
        exact ⟨by first | rfl | (simp [errW_none, errW_some] <;> rfl) | (simp [*, errW_none, errW_some] <;> rfl), by repeat (first | (with_reducible first | exact HB.out | apply below_alloc | apply pw_below_drewN | apply below_drew1 | refine below_set ?_ GE101.out) | exact HB.out)⟩
    · rw [if_neg c3] at H
      have c3b0 : decide (a0_0 ≤ 9) = false := decide_eq_false c3
      clear c3
      obtain rfl := Option.some.inj H
      go_enter Try.func74, Try.ntmps74
      go_wp2_with (first | ((with_reducible refine gate_dst (N := 1) rfl ?_); refine box_event ?hg (N := 1) ?hd (cs := #[.int .i64 a0_0, .int .i64 a0_1, .slice A0_2 l0_2.length c0_2]) (t := 60) ?hr ?_; (case hd => rfl); (case hg => rfl); (case hr => first | (go_simp; done) | (go_simp; rfl)); intro gb101 hg w14 hbox hb; have n0_ := mz (below_step (by repeat (first | (with_reducible first | exact HB.out | apply below_alloc | apply pw_below_drewN | apply below_drew1) | exact HB.out)) hb); have n1_ := mz (hbox); have n2_ := mz ((by rw [hg]; exact (below_size (by repeat (first | (with_reducible first | exact HB.out | apply below_alloc | apply pw_below_drewN | apply below_drew1) | exact HB.out))) : w.heap.size ≤ gb101)); have n3_ := mz ((by rw [hg]; exact (below_size (by repeat (first | (with_reducible first | exact HB.out | apply below_alloc | apply pw_below_drewN | apply below_drew1) | exact HB.out))) : w.heap.size ≤ gb101)); clear HB; have HB := n0_; have BK101 := n1_; have GW101 := n2_; have GE101 := n3_; clear n0_ n1_ n2_ n3_; clear hb hbox hg; have hcz15_0 : w14.cell? ⟨gb101, 0, none⟩ = some (.int .i64 a0_0) := (blk_cell BK101.out 0).trans rfl; have hcz15_1 : w14.cell? ⟨gb101, 1, none⟩ = some (.int .i64 a0_1) := (blk_cell BK101.out 1).trans rfl; have hcz15_2 : w14.cell? ⟨gb101, 2, none⟩ = some (.slice A0_2 l0_2.length c0_2) := (blk_cell BK101.out 2).trans rfl; have hfz15_0 := blk_frozen BK101.out 0; have hfz15_1 := blk_frozen BK101.out 1; have hfz15_2 := blk_frozen BK101.out 2))
      go_ret
      exact ⟨by first | rfl | (simp [errW_none, errW_some] <;> rfl) | (simp [*, errW_none, errW_some] <;> rfl), by repeat (first | (with_reducible first | exact HB.out | apply below_alloc | apply pw_below_drewN | apply below_drew1 | refine below_set ?_ GE101.out) | exact HB.out)⟩
  · rw [if_neg c2] at H
    have c2b0 : decide (0 ≤ a0_0) = false := decide_eq_false c2
    clear c2
    obtain rfl := Option.some.inj H
    go_enter Try.func74, Try.ntmps74
    go_wp2_with (first | ((with_reducible refine gate_dst (N := 1) rfl ?_); refine box_event ?hg (N := 1) ?hd (cs := #[.int .i64 a0_0, .int .i64 a0_1, .slice A0_2 l0_2.length c0_2]) (t := 60) ?hr ?_; (case hd => rfl); (case hg => rfl); (case hr => first | (go_simp; done) | (go_simp; rfl)); intro gb101 hg w16 hbox hb; have n0_ := mz (below_step (by repeat (first | (with_reducible first | exact HB.out | apply below_alloc | apply pw_below_drewN | apply below_drew1) | exact HB.out)) hb); have n1_ := mz (hbox); have n2_ := mz ((by rw [hg]; exact (below_size (by repeat (first | (with_reducible first | exact HB.out | apply below_alloc | apply pw_below_drewN | apply below_drew1) | exact HB.out))) : w.heap.size ≤ gb101)); have n3_ := mz ((by rw [hg]; exact (below_size (by repeat (first | (with_reducible first | exact HB.out | apply below_alloc | apply pw_below_drewN | apply below_drew1) | exact HB.out))) : w.heap.size ≤ gb101)); clear HB; have HB := n0_; have BK101 := n1_; have GW101 := n2_; have GE101 := n3_; clear n0_ n1_ n2_ n3_; clear hb hbox hg; have hcz17_0 : w16.cell? ⟨gb101, 0, none⟩ = some (.int .i64 a0_0) := (blk_cell BK101.out 0).trans rfl; have hcz17_1 : w16.cell? ⟨gb101, 1, none⟩ = some (.int .i64 a0_1) := (blk_cell BK101.out 1).trans rfl; have hcz17_2 : w16.cell? ⟨gb101, 2, none⟩ = some (.slice A0_2 l0_2.length c0_2) := (blk_cell BK101.out 2).trans rfl; have hfz17_0 := blk_frozen BK101.out 0; have hfz17_1 := blk_frozen BK101.out 1; have hfz17_2 := blk_frozen BK101.out 2))
    go_ret
    exact ⟨by first | rfl | (simp [errW_none, errW_some] <;> rfl) | (simp [*, errW_none, errW_some] <;> rfl), by repeat (first | (with_reducible first | exact HB.out | apply below_alloc | apply pw_below_drewN | apply below_drew1 | refine below_set ?_ GE101.out) | exact HB.out)⟩
end
section
attribute [local go_sem] max2_int min2_int max_two min_two max_three min_three max_four min_four
def impl_lastSeq.l0 : Nat → Int → Int → List (S60) → Int → Int → Option (Int)
  | 0, _, _, _, _, _ => none
  | k + 1, x1, x5, x8, x9, x10 => if x10 < x9 then (if 0 ≤ x10 then (if x10 < (x8.length : Int) then (if ((rd_T60 x8 x10).f0) = x1 then (impl_lastSeq.l0 k x1 (mx x5 ((rd_T60 x8 x10).f1)) x8 x9 (wrap64 (x10 + 1))) else (impl_lastSeq.l0 k x1 x5 x8 x9 (wrap64 (x10 + 1)))) else (none)) else (none)) else (some x5)
def impl_lastSeq.f (k : Nat) (l0 : List (S60)) (a1 : Int) : Option (Int) := impl_lastSeq.l0 k a1 0 l0 (l0.length : Int) 0
set_option maxHeartbeats 8000000 in
set_option maxRecDepth 100000 in
theorem impl_lastSeq.calls (k : Nat) (A0 : Option Addr) (c0 : Nat) (l0 : List (S60)) (a1 : Int) (r : Int) (w : World) (hr0 : Kd.C k60 w A0 l0.length l0) (hc0 : l0.length ≤ c0) (h : impl_lastSeq.f k l0 a1 = some r) :
    Calls Try.prog 77 #[.slice A0 l0.length c0, .int .i64 a1] w fun e w' => e = .returned (.int .i64 r) ∧ Below w.heap.size w w' := by
  have hu60 := Try.underlying60
  have HR0 := mz hr0
  have HC0 := mz hc0
  clear hr0 hc0
  have HB := mz (Below.refl w.heap.size w)
  have H : (impl_lastSeq.l0 k a1 0 l0 (l0.length : Int) 0) = some r := h
  clear h
  have H' := mz H
  clear H
  go_enter Try.func77, Try.ntmps77
  go_wp2
  go_loopg [5, 10] k (fun kq v5 v10 w' => ∃ (x5_1 : Int) (x10_1 : Int), v5 = .int .i64 x5_1 ∧ v10 = .int .i64 x10_1 ∧ Aside0 (impl_lastSeq.l0 kq a1 x5_1 l0 (l0.length : Int) x10_1 = some r) ∧ Aside0 (kq ≤ k) ∧ Aside0 (Below w.heap.size w w'))
  case atStart => exact ⟨(0), (0), (by first | rfl | (simp; done) | (simp [*]; done)), (by first | rfl | (simp; done) | (simp [*]; done)), H', ⟨Nat.le_refl _⟩, ⟨by repeat (first | (with_reducible first | exact HB.out | apply below_alloc | apply pw_below_drewN | apply below_drew1) | exact HB.out)⟩⟩
  case round =>
    clear H'
    try clear p2
    obtain ⟨x5_1, x10_1, rfl, rfl, HA, HK1, HB⟩ := hrel
    cases gk with
    | zero => exact absurd HA.out (by simp [impl_lastSeq.l0])
    | succ k1 =>
      have H := HA.out
      clear HA
      simp only [impl_lastSeq.l0] at H
      by_cases c3 : x10_1 < (l0.length : Int)
      · rw [if_pos c3] at H
        have c3b0 : decide (x10_1 < (l0.length : Int)) = true := decide_eq_true c3
        clear c3
        by_cases c4 : 0 ≤ x10_1
        · rw [if_pos c4] at H
          have c4b0 : decide (0 ≤ x10_1) = true := decide_eq_true c4
          clear c4
          by_cases c5 : x10_1 < (l0.length : Int)
          · rw [if_pos c5] at H
            have c5b0 : decide (x10_1 < (l0.length : Int)) = true := decide_eq_true c5
            clear c5
            by_cases c6 : ((rd_T60 l0 x10_1).f0) = a1
            · rw [if_pos c6] at H
              have c6b0 : (((rd_T60 l0 x10_1).f0) == a1) = true := beq_iff_eq.mpr c6
              have c6b1 : (((rd_T60 l0 x10_1).f0) != a1) = false := bne_eq_false_iff_eq.mpr c6
              clear c6
              obtain ⟨ji7, hji7⟩ : ∃ j_ : Int, (mx x5_1 ((rd_T60 l0 x10_1).f1)) = j_ := ⟨_, rfl⟩
              replace H : (impl_lastSeq.l0 k1 a1 ji7 l0 (l0.length : Int) (wrap64 (x10_1 + 1))) = some r := by first | (rw [hji7] at H; exact H) | (simp only [hji7] at H ⊢; exact H)
              have hji7_ : (if x5_1 < ((rd_T60 l0 x10_1).f1) then ((rd_T60 l0 x10_1).f1) else x5_1) = ji7 := hji7
              have H' := mz H
              clear H
              have p101 : 0 ≤ (x10_1 : Int) := of_decide_eq_true (by first | (with_reducible assumption) | assumption)
              have q101 : x10_1 < (l0.length : Int) := of_decide_eq_true (by first | (with_reducible assumption) | assumption)
              obtain ⟨ad101, A101_2, c101_2, e101, hx101_0, hx101_1, hx101_2, hl101_2, hi101_2⟩ := at_T60 HR0.out x10_1 p101 q101
              cases e101
              replace hx101_0 := bc_ HB.out hx101_0
              replace hx101_1 := bc_ HB.out hx101_1
              replace hx101_2 := bc_ HB.out hx101_2
              have HR101_2 := mz hi101_2
              have HC101_2 := mz hl101_2
              clear hi101_2 hl101_2
              replace p101 := eq_true p101
              replace q101 := eq_true q101
              go_wp2_with (first | ((with_reducible refine gate_dst (N := 7) rfl ?_); refine box_event ?hg (N := 7) ?hd (cs := #[.int .i64 0, .int .i64 0, .slice none 0 0]) (t := 60) ?hr ?_; (case hd => rfl); (case hg => rfl); (case hr => first | (go_simp; done) | (go_simp; rfl)); intro gb102 hg w8 hbox hb; have n0_ := mz (below_step (by repeat (first | (with_reducible first | exact HB.out | apply below_alloc | apply pw_below_drewN | apply below_drew1) | exact HB.out)) hb); have n1_ := mz (hbox); have n2_ := mz ((by rw [hg]; exact (below_size (by repeat (first | (with_reducible first | exact HB.out | apply below_alloc | apply pw_below_drewN | apply below_drew1) | exact HB.out))) : w.heap.size ≤ gb102)); have n3_ := mz ((by rw [hg]; exact (below_size (by repeat (first | (with_reducible first | exact HB.out | apply below_alloc | apply pw_below_drewN | apply below_drew1) | exact HB.out))) : w.heap.size ≤ gb102)); clear HB; have HB := n0_; have BK102 := n1_; have GW102 := n2_; have GE102 := n3_; clear n0_ n1_ n2_ n3_; clear hb hbox hg; have hcz9_0 : w8.cell? ⟨gb102, 0, none⟩ = some (.int .i64 0) := (blk_cell BK102.out 0).trans rfl; have hcz9_1 : w8.cell? ⟨gb102, 1, none⟩ = some (.int .i64 0) := (blk_cell BK102.out 1).trans rfl; have hcz9_2 : w8.cell? ⟨gb102, 2, none⟩ = some (.slice none 0 0) := (blk_cell BK102.out 2).trans rfl; have hfz9_0 := blk_frozen BK102.out 0; have hfz9_1 := blk_frozen BK102.out 1; have hfz9_2 := blk_frozen BK102.out 2))
              go_roundg k1
              case measure => have := HK1.out; omega
              case rel => exact ⟨(ji7), (wrap64 (x10_1 + 1)), (by first | rfl | (simp; done) | (simp only [← hji7] <;> (first | rfl | simp)) | (simp [*]; done)), (by first | rfl | (simp; done) | (simp [*]; done)), (by first | exact H' | (simp only [hji7]; exact H') | (subst hji7; exact H')), ⟨by have := HK1.out; omega⟩, ⟨by repeat (first | (with_reducible first | exact HB.out | apply below_alloc | apply pw_below_drewN | apply below_drew1 | refine below_set ?_ GE102.out) | exact HB.out)⟩⟩
            · rw [if_neg c6] at H
              have c6b0 : (((rd_T60 l0 x10_1).f0) == a1) = false := beq_eq_false_iff_ne.mpr c6
              have c6b1 : (((rd_T60 l0 x10_1).f0) != a1) = true := bne_iff_ne.mpr c6
              have H' := mz H
              clear H
              have p101 : 0 ≤ (x10_1 : Int) := of_decide_eq_true (by first | (with_reducible assumption) | assumption)
              have q101 : x10_1 < (l0.length : Int) := of_decide_eq_true (by first | (with_reducible assumption) | assumption)
              obtain ⟨ad101, A101_2, c101_2, e101, hx101_0, hx101_1, hx101_2, hl101_2, hi101_2⟩ := at_T60 HR0.out x10_1 p101 q101
              cases e101
              replace hx101_0 := bc_ HB.out hx101_0
              replace hx101_1 := bc_ HB.out hx101_1
              replace hx101_2 := bc_ HB.out hx101_2
              have HR101_2 := mz hi101_2
              have HC101_2 := mz hl101_2
              clear hi101_2 hl101_2
              replace p101 := eq_true p101
              replace q101 := eq_true q101
              go_wp2_with (first | ((with_reducible refine gate_dst (N := 7) rfl ?_); refine box_event ?hg (N := 7) ?hd (cs := #[.int .i64 0, .int .i64 0, .slice none 0 0]) (t := 60) ?hr ?_; (case hd => rfl); (case hg => rfl); (case hr => first | (go_simp; done) | (go_simp; rfl)); intro gb102 hg w10 hbox hb; have n0_ := mz (below_step (by repeat (first | (with_reducible first | exact HB.out | apply below_alloc | apply pw_below_drewN | apply below_drew1) | exact HB.out)) hb); have n1_ := mz (hbox); have n2_ := mz ((by rw [hg]; exact (below_size (by repeat (first | (with_reducible first | exact HB.out | apply below_alloc | apply pw_below_drewN | apply below_drew1) | exact HB.out))) : w.heap.size ≤ gb102)); have n3_ := mz ((by rw [hg]; exact (below_size (by repeat (first | (with_reducible first | exact HB.out | apply below_alloc | apply pw_below_drewN | apply below_drew1) | exact HB.out))) : w.heap.size ≤ gb102)); clear HB; have HB := n0_; have BK102 := n1_; have GW102 := n2_; have GE102 := n3_; clear n0_ n1_ n2_ n3_; clear hb hbox hg; have hcz11_0 : w10.cell? ⟨gb102, 0, none⟩ = some (.int .i64 0) := (blk_cell BK102.out 0).trans rfl; have hcz11_1 : w10.cell? ⟨gb102, 1, none⟩ = some (.int .i64 0) := (blk_cell BK102.out 1).trans rfl; have hcz11_2 : w10.cell? ⟨gb102, 2, none⟩ = some (.slice none 0 0) := (blk_cell BK102.out 2).trans rfl; have hfz11_0 := blk_frozen BK102.out 0; have hfz11_1 := blk_frozen BK102.out 1; have hfz11_2 := blk_frozen BK102.out 2))
              go_roundg k1
              case measure => have := HK1.out; omega
              case rel => exact ⟨(x5_1), (wrap64 (x10_1 + 1)), (by first | rfl | (simp; done) | (simp [*]; done)), (by first | rfl | (simp; done) | (simp [*]; done)), H', ⟨by have := HK1.out; omega⟩, ⟨by repeat (first | (with_reducible first | exact HB.out | apply below_alloc | apply pw_below_drewN | apply below_drew1 | refine below_set ?_ GE102.out) | exact HB.out)⟩⟩
          · rw [if_neg c5] at H
            exact absurd H (by simp)
        · rw [if_neg c4] at H
          exact absurd H (by simp)
      · rw [if_neg c3] at H
        have c3b0 : decide (x10_1 < (l0.length : Int)) = false := decide_eq_false c3
        clear c3
        obtain rfl := Option.some.inj H
        go_wp2
        go_ret
        exact ⟨by first | rfl | (simp [errW_none, errW_some] <;> rfl) | (simp [*, errW_none, errW_some] <;> rfl), by repeat (first | (with_reducible first | exact HB.out | apply below_alloc | apply pw_below_drewN | apply below_drew1) | exact HB.out)⟩
end
abbrev Entry := S60
def entryB (e : Entry) : Bool := decide (0 ≤ e.f0) && decide (e.f0 ≤ 9) && decide (1 ≤ e.f1) && decide (e.f1 ≤ 1000) && opB e.f2
theorem entryB_of {e : Entry} (h : entryB e = true) : 0 ≤ e.f0 ∧ e.f0 ≤ 9 ∧ 1 ≤ e.f1 ∧ e.f1 ≤ 1000 ∧ opB e.f2 = true := by
  simp only [entryB, Bool.and_eq_true, decide_eq_true_eq] at h
  exact ⟨h.1.1.1.1, h.1.1.1.2, h.1.1.2, h.1.2, h.2⟩
theorem isEntry_ev (e : Entry) (hs : sizedP e.f2 = true) : Ev (fun k => impl_isEntry.f k e.f0 e.f1 e.f2) (entryB e) := by
  unfold impl_isEntry.f entryB
  by_cases a : 0 ≤ e.f0
  · simp only [if_pos (show e.f0 ≥ 0 from a), decide_eq_true a]
    by_cases b : e.f0 ≤ 9
    · simp only [if_pos b, decide_eq_true b]
      by_cases c : 1 ≤ e.f1
      · simp only [if_pos (show e.f1 ≥ 1 from c), decide_eq_true c]
        by_cases d : e.f1 ≤ 1000
        · simp only [if_pos d, decide_eq_true d, Bool.true_and, Bool.and_self]
          exact Ev.bind (implGoodOp_ev e.f2 hs) (Ev.now _)
        · simp only [if_neg d, decide_eq_false d, Bool.and_false, Bool.false_and]; exact Ev.now _
      · simp only [if_neg (show ¬ e.f1 ≥ 1 from c), decide_eq_false c, Bool.and_false, Bool.false_and]; exact Ev.now _
    · simp only [if_neg b, decide_eq_false b, Bool.and_false, Bool.false_and]; exact Ev.now _
  · simp only [if_neg (show ¬ e.f0 ≥ 0 from a), decide_eq_false a, Bool.false_and]; exact Ev.now _
theorem l1In_val (n lo hi : Int) : spec_l1In.f n lo hi = some (decide (lo ≤ n) && decide (n ≤ hi)) := by
  unfold spec_l1In.f
  by_cases a : lo ≤ n
  · simp only [if_pos (show n ≥ lo from a), decide_eq_true a, Bool.true_and]
  · simp only [if_neg (show ¬ n ≥ lo from a), decide_eq_false a, Bool.false_and]
theorem specEntry_ev (e : Entry) (hs : sizedP e.f2 = true) : Ev (fun k => spec_l15Entry.f k e.f0 e.f1 e.f2) (entryB e) := by
  unfold spec_l15Entry.f entryB
  simp only [l1In_val, Option.bind_some]
  cases a : (decide (0 ≤ e.f0) && decide (e.f0 ≤ 9)) with
  | false => simp only [Bool.false_eq_true, if_false, Bool.false_and]; exact Ev.now _
  | true =>
    simp only [if_true, Bool.true_and]
    cases b : (decide (1 ≤ e.f1) && decide (e.f1 ≤ 1000)) with
    | false => simp only [Bool.false_eq_true, if_false, Bool.false_and]; exact Ev.now _
    | true =>
      simp only [if_true, Bool.true_and]
      exact Ev.bind (specGoodOp_ev e.f2 hs) (Ev.now _)

def sizedL (l : List Entry) : Bool := l.all fun e => sizedP e.f2
theorem sizedL_of {l : List Entry} (h : sizedL l = true) : ∀ e ∈ l, sizedP e.f2 = true := by simpa [sizedL] using h
theorem rd_entry (l : List Entry) (i : Nat) (h : i < l.length) : rd_T60 l (i : Int) = l[i] := by
  simp [rd_T60, List.getD_eq_getElem?_getD, h]
def lastB (c : Int) (l : List Entry) (m : Int) : Int := l.foldl (fun m e => if e.f0 = c then mx m e.f1 else m) m
theorem lastB_cons (c : Int) (e : Entry) (l : List Entry) (m : Int) : lastB c (e :: l) m = lastB c l (if e.f0 = c then mx m e.f1 else m) := rfl
theorem lastB_ge (c s : Int) (l : List Entry) : ∀ m, s ≤ lastB c l m ↔ s ≤ m ∨ ∃ e ∈ l, e.f0 = c ∧ s ≤ e.f1 := by
  induction l with
  | nil => intro m; simp [lastB]
  | cons e l ih =>
    intro m
    rw [lastB_cons, ih]
    simp only [List.mem_cons, exists_eq_or_imp]
    by_cases h : e.f0 = c
    · rw [if_pos h]
      have : s ≤ mx m e.f1 ↔ s ≤ m ∨ s ≤ e.f1 := by unfold mx; split <;> omega
      rw [this]
      simp only [h, true_and]
      exact or_assoc
    · rw [if_neg h]
      simp only [h, false_and, false_or]
theorem lastSeq_loop (l : List Entry) (c : Int) (hm : l.length ≤ 9223372036854775807) (d : Nat) : ∀ (i : Nat) (m : Int), i + d = l.length → Ev (fun k => impl_lastSeq.l0 k c m l (l.length : Int) (i : Int)) (lastB c (l.drop i) m) := by
  induction d with
  | zero =>
    intro i m h
    refine Ev.succ ?_
    simp only [impl_lastSeq.l0, if_neg (show ¬ ((i : Int) < (l.length : Int)) by omega)]
    rw [List.drop_eq_nil_of_le (by omega)]
    exact Ev.now _
  | succ d ih =>
    intro i m h
    have hi : i < l.length := by omega
    have e : l.drop i = l[i] :: l.drop (i + 1) := List.drop_eq_getElem_cons hi
    refine Ev.succ ?_
    simp only [impl_lastSeq.l0, if_pos (show ((i : Int) < (l.length : Int)) by omega), if_pos (show (0 : Int) ≤ i by omega), rd_entry l i hi, w64 (show -9223372036854775808 ≤ (i : Int) + 1 by omega) (by omega)]
    rw [e, lastB_cons]
    by_cases q : (l[i]).f0 = c
    · simp only [if_pos q]; exact ih (i + 1) _ (by omega)
    · simp only [if_neg q]; exact ih (i + 1) _ (by omega)
theorem lastSeq_ev (l : List Entry) (c : Int) (hm : l.length ≤ 9223372036854775807) : Ev (fun k => impl_lastSeq.f k l c) (lastB c l 0) := by
  have := lastSeq_loop l c hm l.length 0 0 (by omega)
  simpa [impl_lastSeq.f] using this

def okAt (l : List Entry) (i : Nat) (e : Entry) : Bool := entryB e && !((l.take i).any fun o => decide (o.f0 = e.f0) && decide (e.f1 ≤ o.f1))
def okFrom (l : List Entry) : List Entry → Nat → Bool
  | [], _ => true
  | e :: r, i => okAt l i e && okFrom l r (i + 1)
theorem okFrom_mem (l : List Entry) (r : List Entry) : ∀ i, okFrom l r i = true → ∀ j (h : j < r.length), okAt l (i + j) r[j] = true := by
  induction r with
  | nil => intro i _ j h; simp at h
  | cons e r ih =>
    intro i h j hj
    simp only [okFrom, Bool.and_eq_true] at h
    cases j with
    | zero => exact h.1
    | succ j =>
      have := ih (i + 1) h.2 j (by simpa using hj)
      rw [show i + (j + 1) = i + 1 + j by omega]
      simpa using this
theorem okFrom_ops {l : List Entry} (h : okFrom l l 0 = true) : ∀ e ∈ l, entryB e = true := by
  intro e he
  obtain ⟨i, hi, rfl⟩ := List.getElem_of_mem he
  have := okFrom_mem l l 0 h i hi
  simp only [okAt, Bool.and_eq_true] at this
  exact this.1
theorem clash_last (l : List Entry) (i : Nat) (e : Entry) (h : 1 ≤ e.f1) : ((l.take i).any fun o => decide (o.f0 = e.f0) && decide (e.f1 ≤ o.f1)) = decide (e.f1 ≤ lastB e.f0 (l.take i) 0) := by
  rw [Bool.eq_iff_iff, decide_eq_true_eq, lastB_ge, List.any_eq_true]
  constructor
  · rintro ⟨o, ho, h2⟩
    simp only [Bool.and_eq_true, decide_eq_true_eq] at h2
    exact .inr ⟨o, ho, h2⟩
  · rintro (h2 | ⟨o, ho, h2⟩)
    · omega
    · exact ⟨o, ho, by simpa using h2⟩

def runB : List Entry → ByteArray → ByteArray × Bool
  | [], t => (t, true)
  | e :: l, t => if (applyV e.f2 t).2 = true then runB l (applyV e.f2 t).1 else (⟨#[]⟩, false)
def goodB (a t : ByteArray) (l : List Entry) : Bool := textB a && decide (l.length ≤ 60) && okFrom l l 0 && (runB l a).2 && decide ((runB l a).1 = t)
def textsB : List Entry → ByteArray → List ByteArray → List ByteArray × Bool
  | [], _, acc => (acc, true)
  | e :: l, t, acc => if (appB e.f2 t ⟨#[]⟩).2 = true ∧ textB (appB e.f2 t ⟨#[]⟩).1 = true then textsB l (appB e.f2 t ⟨#[]⟩).1 (acc ++ [(appB e.f2 t ⟨#[]⟩).1]) else ([], false)
theorem texts_run (l : List Entry) : ∀ (t : ByteArray) (acc : List ByteArray), (∀ e ∈ l, opB e.f2 = true) → textB t = true →
    (textsB l t acc).2 = (runB l t).2 ∧ ((textsB l t acc).2 = true → ∃ ts, (textsB l t acc).1 = acc ++ ts ∧ ts.length = l.length ∧ ∀ j, j ≤ l.length → (runB (l.take j) t).2 = true ∧ (t :: ts)[j]? = some (runB (l.take j) t).1) := by
  induction l with
  | nil =>
    intro t acc _ ht
    refine ⟨rfl, fun _ => ⟨[], by simp [textsB], rfl, fun j hj => ?_⟩⟩
    have : j = 0 := by simpa using hj
    subst this
    exact ⟨rfl, rfl⟩
  | cons e l ih =>
    intro t acc ho ht
    have oe := ho e List.mem_cons_self
    have hav : applyV e.f2 t = ansB (appB e.f2 t ⟨#[]⟩) := by simp [applyV, oe, ht]
    cases q : (appB e.f2 t ⟨#[]⟩).2 with
    | false =>
      have h1 : (applyV e.f2 t).2 = false := by rw [hav]; simp [ansB, q]
      refine ⟨by simp [textsB, runB, q, h1], fun h => ?_⟩
      simp [textsB, q] at h
    | true =>
      have tt := appB_text oe ht q
      have h1 : applyV e.f2 t = ((appB e.f2 t ⟨#[]⟩).1, true) := by rw [hav]; simp [ansB, q]
      obtain ⟨i1, i2⟩ := ih (appB e.f2 t ⟨#[]⟩).1 (acc ++ [(appB e.f2 t ⟨#[]⟩).1]) (fun x hx => ho x (List.mem_cons_of_mem _ hx)) tt
      have ht1 : textsB (e :: l) t acc = textsB l (appB e.f2 t ⟨#[]⟩).1 (acc ++ [(appB e.f2 t ⟨#[]⟩).1]) := by simp [textsB, q, tt]
      have hr1 : ∀ r, runB (e :: r) t = runB r (appB e.f2 t ⟨#[]⟩).1 := fun r => by simp [runB, h1]
      rw [ht1, hr1]
      refine ⟨i1, fun h => ?_⟩
      obtain ⟨ts, e1, e2, e3⟩ := i2 h
      refine ⟨(appB e.f2 t ⟨#[]⟩).1 :: ts, by rw [e1]; simp, by simp [e2], fun j hj => ?_⟩
      cases j with
      | zero => exact ⟨rfl, rfl⟩
      | succ j =>
        rw [List.take_succ_cons, hr1]
        have := e3 j (by simpa using hj)
        exact ⟨this.1, by simpa using this.2⟩
theorem texts_loop (l : List Entry) (hl : l.length ≤ 60) (ho : ∀ e ∈ l, opB e.f2 = true) (d : Nat) : ∀ (i : Nat) (acc : List ByteArray) (t : ByteArray), i + d = l.length → acc.length = i + 1 → 
    Ev (fun k => spec_l15Texts.l0 k acc t l (l.length : Int) (i : Int)) (textsB (l.drop i) t acc) := by
  induction d with
  | zero =>
    intro i acc t h _
    refine Ev.succ ?_
    simp only [spec_l15Texts.l0, if_neg (show ¬ ((i : Int) < (l.length : Int)) by omega)]
    rw [List.drop_eq_nil_of_le (by omega)]
    exact Ev.now _
  | succ d ih =>
    intro i acc t h ha
    have hi : i < l.length := by omega
    have e : l.drop i = l[i] :: l.drop (i + 1) := List.drop_eq_getElem_cons hi
    obtain ⟨o1, o2, o3, o4⟩ := opB_of (ho l[i] (List.getElem_mem hi))
    refine Ev.succ ?_
    simp only [spec_l15Texts.l0, if_pos (show ((i : Int) < (l.length : Int)) by omega), if_pos (show (0 : Int) ≤ i by omega), rd_entry l i hi, w64 (show -9223372036854775808 ≤ (i : Int) + 1 by omega) (by omega)]
    refine Ev.bind (specApply_ev l[i].f2 t o1 o2) ?_
    rw [e]
    cases q : (appB l[i].f2 t ⟨#[]⟩).2 with
    | false =>
      simp only [Bool.false_eq_true, if_false, textsB, q, false_and]
      exact Ev.now _
    | true =>
      have hz := (appB_size l[i].f2 t ⟨#[]⟩ q).2
      have e0 : (⟨#[]⟩ : ByteArray).size = 0 := rfl
      simp only [if_true]
      refine Ev.bind (specText_ev (appB l[i].f2 t ⟨#[]⟩).1 (by simp only [maxLen]; omega)) ?_
      cases q2 : textB (appB l[i].f2 t ⟨#[]⟩).1 with
      | false =>
        simp only [Bool.false_eq_true, if_false, textsB, q, q2, and_false]
        exact Ev.now _
      | true =>
        simp only [if_true, textsB, q, q2, and_self, if_pos (show acc.length < 8796093022208 by omega)]
        exact ih (i + 1) _ _ (by omega) (by simp [ha])
theorem texts_ev (a t : ByteArray) (l : List Entry) (hl : l.length ≤ 60) (ho : ∀ e ∈ l, opB e.f2 = true) : Ev (fun k => spec_l15Texts.f k a t l) (textsB l a [a]) := by
  have := texts_loop l hl ho l.length 0 [a] a (by omega) rfl
  simpa [spec_l15Texts.f] using this

theorem goodB_of {a t : ByteArray} {l : List Entry} (h : goodB a t l = true) : textB a = true ∧ l.length ≤ 60 ∧ okFrom l l 0 = true ∧ (runB l a).2 = true ∧ (runB l a).1 = t ∧ ∀ e ∈ l, entryB e = true := by
  simp only [goodB, Bool.and_eq_true, decide_eq_true_eq] at h
  exact ⟨h.1.1.1.1, h.1.1.1.2, h.1.1.2, h.1.2, h.2, okFrom_ops h.1.1.2⟩
section
variable {P : Program} {ops : Array Oper} {Q : Exit → Act → World → Prop} {md : Region.Mode} {S : World → Prop} {fuel : Nat} {listed : Array Bool} {a a' : Act} {w : World} {oi : Oper}
end
theorem texts_end {a : ByteArray} {l : List Entry} (h1 : textB a = true) (ho : ∀ e ∈ l, opB e.f2 = true) : (textsB l a [a]).2 = (runB l a).2 ∧ ((textsB l a [a]).2 = true → (textsB l a [a]).1.length = l.length + 1 ∧ rdOf ByteArray.empty (textsB l a [a]).1 (l.length : Int) = (runB l a).1) := by
  obtain ⟨t1, t2⟩ := texts_run l a [a] ho h1
  refine ⟨t1, fun q => ?_⟩
  obtain ⟨ts, e1, e2, e3⟩ := t2 q
  have e4 := (e3 l.length (Nat.le_refl _)).2
  rw [List.take_length] at e4
  have hlen : (textsB l a [a]).1.length = l.length + 1 := by rw [e1]; simp [e2]
  refine ⟨hlen, ?_⟩
  rw [rdOf_get _ _ _ (by omega)]
  have e5 : (textsB l a [a]).1[l.length]? = some (runB l a).1 := by rw [e1]; exact e4
  rw [List.getElem?_eq_getElem (by omega)] at e5
  exact Option.some.inj e5
set_option maxHeartbeats 8000000 in
set_option maxRecDepth 100000 in
theorem specGoodServer_walk (a t : ByteArray) (A : Option Addr) (c : Nat) (l : List Entry) (w : World) (hr : Kd.C k60 w A l.length l) (hc : l.length ≤ c) (hs : sizedL l = true) (ha : a.size ≤ maxLen) :
    Calls Try.prog 56 #[.agg #[.string a, .string t, .slice A l.length c]] w fun e w' => e = .returned (.bool (goodB a t l)) ∧ Below w.heap.size w w' := by
  obtain ⟨K0, hK0⟩ := Ev.rounds (specText_ev a ha)
  have HR := mz hr
  have HC := mz hc
  have HS := mz hs
  have hl1 : l.length ≤ 9223372036854775807 := hr.2.1
  have HL1 := mz hl1
  have HK0 := mz hK0
  clear hr hc hs ha hK0 hl1
  cases h0 : textB a with
  | false =>
    have hres : goodB a t l = false := by simp [goodB, h0]
    rw [hres]
    rw [h0] at HK0
    clear hres h0
    go_enter Try.func56, Try.ntmps56
    go_wp2_with ((with_reducible refine gate_dst (N := 1) rfl ?_); refine bx 1 #[.string a, .string t, .slice A l.length c] 49 ?_; intro gs hg w1 hbox hb; have HB1 := mz hb; have BK := mz hbox; obtain ⟨x0, x1, x2⟩ := cells3 hbox; clear hg hbox hb)
    refine (spec_GoodText.calls K0 a false _ HK0.out).mono ?_
    rintro e w2 ⟨rfl, hd⟩
    have hb := hd.below
    have HB2 := mz (below_step HB1.out hb)
    have BK2 := mz (blk_below BK.out hb)
    clear x0 x1 x2 hd hb
    obtain ⟨x0, x1, x2⟩ := cells3 BK2.out
    go_wp2_with fail
    go_ret
    exact ⟨rfl, HB2.out⟩
  | true =>
    rw [h0] at HK0
    have HT := mz h0
    clear h0
    by_cases n60 : (60 : Int) < (l.length : Int)
    · have hres : goodB a t l = false := by simp [goodB, show ¬ l.length ≤ 60 by omega]
      rw [hres]
      clear hres
      go_enter Try.func56, Try.ntmps56
      go_wp2_with ((with_reducible refine gate_dst (N := 1) rfl ?_); refine bx 1 #[.string a, .string t, .slice A l.length c] 49 ?_; intro gs hg w1 hbox hb; have HB1 := mz hb; have BK := mz hbox; obtain ⟨x0, x1, x2⟩ := cells3 hbox; clear hg hbox hb)
      refine (spec_GoodText.calls K0 a true _ HK0.out).mono ?_
      rintro e w2 ⟨rfl, hd⟩
      have hb := hd.below
      have HB2 := mz (below_step HB1.out hb)
      have BK2 := mz (blk_below BK.out hb)
      clear x0 x1 x2 hd hb
      obtain ⟨x0, x1, x2⟩ := cells3 BK2.out
      go_wp2_with fail
      go_ret
      exact ⟨rfl, HB2.out⟩
    have HV : Aside0 (goodB a t l = (okFrom l l 0 && ((runB l a).2 && decide ((runB l a).1 = t)))) := ⟨by unfold goodB; rw [HT.out, Bool.true_and, decide_eq_true (show l.length ≤ 60 by omega), Bool.true_and, Bool.and_assoc]⟩
    go_enter Try.func56, Try.ntmps56
    go_wp2_with ((with_reducible refine gate_dst (N := 1) rfl ?_); refine bx 1 #[.string a, .string t, .slice A l.length c] 49 ?_; intro gs hg w1 hbox hb; have HB1 := mz hb; have BK := mz hbox; obtain ⟨x0, x1, x2⟩ := cells3 hbox; clear hg hbox hb)
    refine (spec_GoodText.calls K0 a true _ HK0.out).mono ?_
    rintro e w2 ⟨rfl, hd⟩
    have hb := hd.below
    have HB2 := mz (below_step HB1.out hb)
    have BK2 := mz (blk_below BK.out hb)
    clear x0 x1 x2 hd hb
    obtain ⟨x0, x1, x2⟩ := cells3 BK2.out
    clear BK HB1
    go_wp2_with fail
    go_loopg [22] l.length (fun gg z22 wr => ∃ kk : Nat, kk ≤ l.length ∧ l.length - kk ≤ gg ∧ z22 = .int .i64 kk ∧ Aside0 (Below w2.heap.size w2 wr) ∧ Aside0 (okFrom l l 0 = okFrom l (l.drop kk) kk))
    case atStart => exact ⟨0, Nat.zero_le _, by omega, rfl, ⟨Below.refl _ _⟩, ⟨by rw [List.drop_zero]⟩⟩
    case round =>
      clear x0 x1 x2
      obtain ⟨kk, hkk, hgg, rfl, BW, SVv⟩ := hrel
      have BKR := mz (blk_below BK2.out BW.out)
      by_cases hlt : kk < l.length
      · have hltz : (kk : Int) < (l.length : Int) := by omega
        obtain ⟨ad, A2, c2, e1, hx0, hx1, hx2, hl2, hi2⟩ := at_T60 (Kd.C_below HR.out (below_step HB2.out BW.out)) (kk : Int) (by omega) hltz
        subst e1
        have hsz := sizedL_of HS.out l[kk] (List.getElem_mem hlt)
        rw [rd_entry l kk hlt] at hx0 hx1 hx2 hl2 hi2
        rw [Int.toNat_natCast] at hx0 hx1 hx2
        have SV2 := SVv.out
        rw [List.drop_eq_getElem_cons hlt, okFrom] at SV2
        clear SVv
        generalize l[kk] = y at hx0 hx1 hx2 hl2 hi2 hsz SV2
        obtain ⟨KE, hKE⟩ := Ev.rounds (specEntry_ev y hsz)
        have HKE := mz hKE
        have SVv := mz SV2
        have H2 := mz hi2
        have HC2 := mz hl2
        clear SV2 hi2 hl2 hsz hKE
        obtain ⟨x0, x1, x2⟩ := cells3 BKR.out
        go_upto_region 6 with ((with_reducible refine gate_dst (N := 4) rfl ?_); refine bx 4 #[.int .i64 0, .int .i64 0, .slice none 0 0] 60 ?_; intro ge hge w3 hbox hb3; have HB3 := mz hb3; have BE3 := mz hbox; have G3 : Aside0 (wr.heap.size ≤ ge) := ⟨by rw [hge]; first | exact Nat.le_refl _ | simp⟩; obtain ⟨z0, z1, z2⟩ := cells3 hbox; obtain ⟨f0, f1, f2⟩ := froz3 hbox; clear hb3 hbox hge)
        obtain ⟨BE4, HB4⟩ := fill3 (v0 := .int .i64 y.f0) (v1 := .int .i64 y.f1) (v2 := .slice A2 y.f2.length c2) HB3.out G3.out BE3.out
        clear x0 x1 x2 z0 z1 z2 f0 f1 f2 BE3 HB3 G3 hx0 hx1 hx2
        generalize ((w3.setCell ⟨ge, 0, none⟩ (.int .i64 y.f0)).setCell ⟨ge, 1, none⟩ (.int .i64 y.f1)).setCell ⟨ge, 2, none⟩ (.slice A2 y.f2.length c2) = w4 at BE4 HB4 ⊢
        have HBR := mz HB4
        have HB24 := mz (below_step BW.out HB4)
        have BK4 := mz (blk_below BK2.out HB24.out)
        have BE4 := mz BE4
        clear HB4
        obtain ⟨x0, x1, x2⟩ := cells3 BK4.out
        obtain ⟨y0, y1, y2⟩ := cells3 BE4.out
        go_wp2_with fail
        cases he : entryB y with
        | false =>
          rw [he] at HKE
          have HE := mz he
          clear he
          refine (spec_l15Entry.calls KE y.f0 y.f1 A2 c2 y.f2 false _ (Kd.C_below H2.out HBR.out) HC2.out HKE.out).mono ?_
          rintro e w5 ⟨rfl, hb⟩
          have HB25 := mz (below_step HB24.out hb)
          have BK5 := mz (blk_below BK4.out hb)
          have BE5 := mz (blk_below BE4.out hb)
          clear x0 x1 x2 y0 y1 y2 hb
          obtain ⟨x0, x1, x2⟩ := cells3 BK5.out
          obtain ⟨y0, y1, y2⟩ := cells3 BE5.out
          have HF : Aside0 (goodB a t l = false) := ⟨by rw [HV.out, SVv.out, okAt, HE.out, Bool.false_and, Bool.false_and, Bool.false_and]⟩
          clear SVv
          go_wp2_with fail
          go_ret
          exact ⟨by rw [HF.out]; first | done | rfl, below_step HB2.out HB25.out⟩
        | true =>
          rw [he] at HKE
          have HE := mz he
          clear he
          refine (spec_l15Entry.calls KE y.f0 y.f1 A2 c2 y.f2 true _ (Kd.C_below H2.out HBR.out) HC2.out HKE.out).mono ?_
          rintro e w5 ⟨rfl, hb⟩
          have HB25 := mz (below_step HB24.out hb)
          have BK5 := mz (blk_below BK4.out hb)
          have BE5 := mz (blk_below BE4.out hb)
          clear x0 x1 x2 y0 y1 y2 hb
          obtain ⟨x0, x1, x2⟩ := cells3 BK5.out
          obtain ⟨y0, y1, y2⟩ := cells3 BE5.out
          have SV3 : Aside0 (okFrom l l 0 = (!((l.take kk).any fun o => decide (o.f0 = y.f0) && decide (y.f1 ≤ o.f1)) && okFrom l (l.drop (kk + 1)) (kk + 1))) := ⟨by rw [SVv.out, okAt, HE.out, Bool.true_and]⟩
          clear SVv HE
          have hkc : kk ≤ c := by have := HC.out; omega
          have hkcz : (kk : Int) ≤ (c : Int) := by omega
          have hk0 : (0 : Int) ≤ (kk : Int) := by omega
          have hLl : (l.take kk).length = kk := by simp; omega
          have HKC := mz hkc
          go_wp2_with ((with_reducible refine gate_dst (N := 33) rfl ?_); refine vl 33 (.slice A kk c) ?_ ?h33; (case h33 => go_simp))
          clear x0 x1 x2 y0 y1 y2 hkc hkcz hk0
          go_loopg [35] kk (fun gg z35 wr => ∃ jj : Nat, jj ≤ kk ∧ kk - jj ≤ gg ∧ z35 = .int .i64 jj ∧ Aside0 (Below w5.heap.size w5 wr) ∧ Aside0 (((l.take kk).any fun o => decide (o.f0 = y.f0) && decide (y.f1 ≤ o.f1)) = (((l.take kk).drop jj).any fun o => decide (o.f0 = y.f0) && decide (y.f1 ≤ o.f1))))
          case atStart => exact ⟨0, Nat.zero_le _, by omega, rfl, ⟨Below.refl _ _⟩, ⟨by rw [List.drop_zero]⟩⟩
          case round =>
            obtain ⟨jj, hjj, hgj, rfl, BI, OV⟩ := hrel
            have HB2r := mz (below_step HB25.out BI.out)
            by_cases hjl : jj < kk
            · have hjz : (jj : Int) < (kk : Int) := by omega
              have hjl2 : jj < l.length := by omega
              obtain ⟨ae, A3, c3, e1, hx0, hx1, hx2, hl2, hi2⟩ := at_T60 (Kd.C_below HR.out (below_step HB2.out HB2r.out)) (jj : Int) (by omega) (by omega)
              injection e1 with e1
              subst e1
              rw [rd_entry l jj hjl2] at hx0 hx1 hx2 hl2 hi2
              rw [Int.toNat_natCast] at hx0 hx1 hx2
              have OV2 := OV.out
              rw [List.drop_eq_getElem_cons (show jj < (l.take kk).length by omega), List.any_cons, List.getElem_take] at OV2
              clear OV hl2 hi2
              generalize l[jj] = o at hx0 hx1 hx2 OV2
              have OV := mz OV2
              clear OV2
              go_upto_region 11 with ((with_reducible refine gate_dst (N := 6) rfl ?_); refine bx 6 #[.int .i64 0, .int .i64 0, .slice none 0 0] 60 ?_; intro go hgo w20 hbox hb3; have HB20 := mz hb3; have BE20 := mz hbox; have G20 : Aside0 (wr.heap.size ≤ go) := ⟨by rw [hgo]; first | exact Nat.le_refl _ | simp⟩; obtain ⟨z0, z1, z2⟩ := cells3 hbox; obtain ⟨f0, f1, f2⟩ := froz3 hbox; clear hb3 hbox hgo)
              obtain ⟨BE21, HB21⟩ := fill3 (v0 := .int .i64 o.f0) (v1 := .int .i64 o.f1) (v2 := .slice A3 o.f2.length c3) HB20.out G20.out BE20.out
              clear z0 z1 z2 f0 f1 f2 BE20 HB20 G20 hx0 hx1 hx2
              generalize ((w20.setCell ⟨go, 0, none⟩ (.int .i64 o.f0)).setCell ⟨go, 1, none⟩ (.int .i64 o.f1)).setCell ⟨go, 2, none⟩ (.slice A3 o.f2.length c3) = w21 at BE21 HB21 ⊢
              have HBI := mz (below_step BI.out HB21)
              clear HB21
              obtain ⟨p0, p1, p2⟩ := cells3 BE21
              clear BE21
              obtain ⟨y0, y1, y2⟩ := cells3 (blk_below BE5.out HBI.out)
              by_cases c1 : o.f0 = y.f0
              · have c1b : (o.f0 == y.f0) = true := by simpa using c1
                by_cases c2 : o.f1 ≥ y.f1
                · have HF : Aside0 (goodB a t l = false) := ⟨by rw [HV.out, SV3.out, OV.out, decide_eq_true c1, decide_eq_true (show y.f1 ≤ o.f1 from c2)]; rfl⟩
                  clear OV SV3
                  go_wp2_with fail
                  go_ret
                  exact ⟨by rw [HF.out]; first | done | rfl, below_step HB2.out (below_step HB25.out HBI.out)⟩
                · have OV3 : Aside0 (((l.take kk).any fun o => decide (o.f0 = y.f0) && decide (y.f1 ≤ o.f1)) = (((l.take kk).drop (jj + 1)).any fun o => decide (o.f0 = y.f0) && decide (y.f1 ≤ o.f1))) := ⟨by rw [OV.out, decide_eq_false (show ¬ y.f1 ≤ o.f1 from c2), Bool.and_false, Bool.false_or]⟩
                  clear OV
                  go_wp2_with fail
                  go_roundg (kk - (jj + 1))
                  case measure => omega
                  case rel => have hl64 := HL1.out; exact ⟨jj + 1, by omega, by omega, by (first | go_num | (congr 1; unfold wrap64; omega)), ⟨HBI.out⟩, ⟨OV3.out⟩⟩
              · have c1b : (o.f0 == y.f0) = false := by simpa using c1
                have OV3 : Aside0 (((l.take kk).any fun o => decide (o.f0 = y.f0) && decide (y.f1 ≤ o.f1)) = (((l.take kk).drop (jj + 1)).any fun o => decide (o.f0 = y.f0) && decide (y.f1 ≤ o.f1))) := ⟨by rw [OV.out, decide_eq_false c1, Bool.false_and, Bool.false_or]⟩
                clear OV
                go_wp2_with fail
                go_roundg (kk - (jj + 1))
                case measure => omega
                case rel => have hl64 := HL1.out; exact ⟨jj + 1, by omega, by omega, by (first | go_num | (congr 1; unfold wrap64; omega)), ⟨HBI.out⟩, ⟨OV3.out⟩⟩
            · have hjz : ¬ (jj : Int) < (kk : Int) := by omega
              have SV4 : Aside0 (okFrom l l 0 = okFrom l (l.drop (kk + 1)) (kk + 1)) := ⟨by rw [SV3.out, OV.out, List.drop_eq_nil_of_le (by omega)]; rfl⟩
              clear OV SV3
              go_wp2_with fail
              go_roundg (l.length - (kk + 1))
              case measure => omega
              case rel => have hl64 := HL1.out; exact ⟨kk + 1, by omega, by omega, by (first | go_num | (congr 1; unfold wrap64; omega)), ⟨HB2r.out⟩, ⟨SV4.out⟩⟩
      · have hltz : ¬ (kk : Int) < (l.length : Int) := by omega
        have HO : Aside0 (okFrom l l 0 = true) := ⟨by rw [SVv.out, List.drop_eq_nil_of_le (by omega)]; rfl⟩
        clear SVv
        have ho : ∀ e ∈ l, opB e.f2 = true := fun e he => (entryB_of (okFrom_ops HO.out e he)).2.2.2.2
        obtain ⟨K4, hK4⟩ := Ev.rounds (texts_ev a t l (by omega) ho)
        obtain ⟨hE1, hE2⟩ := texts_end HT.out ho
        obtain ⟨⟨TS, b⟩, hT⟩ : ∃ p, textsB l a [a] = p := ⟨_, rfl⟩
        rw [hT] at hK4 hE1 hE2
        have HK4 := mz hK4
        have HV2 : Aside0 (goodB a t l = (b && decide ((runB l a).1 = t))) := ⟨by rw [HV.out, HO.out, Bool.true_and, ← hE1]⟩
        have HE2 := mz hE2
        clear hT hK4 hE1 hE2 ho HO HV
        obtain ⟨x0, x1, x2⟩ := cells3 BKR.out
        go_wp2_with fail
        refine (spec_l15Texts.calls K4 a t A c l TS b _ (Kd.C_below HR.out (below_step HB2.out BW.out)) HC.out HK4.out).mono ?_
        rintro e w4 ⟨v4, rfl, hR4, hb4⟩
        have HB4 := mz (below_step (below_step HB2.out BW.out) hb4)
        have BK4 := mz (blk_below BKR.out hb4)
        clear x0 x1 x2 hb4
        obtain ⟨AT, cT, rfl, hlT, hCT⟩ := Kd.R_reads hR4
        have HCT := mz hCT
        clear hR4 hCT hlT
        go_upto_region 16 with fail
        cases b with
        | false =>
          have HF : Aside0 (goodB a t l = false) := ⟨by rw [HV2.out, Bool.false_and]⟩
          have F : ∀ W' : World, Below w4.heap.size w4 W' → True := fun _ _ => trivial
          refine wp_region_held_drew (S := fun W' => Below w4.heap.size w4 W') (by kernel_rfl) (below_drew1 (Below.refl _ _)) (fun Y => ?_)
          refine' tF 0 F ?_
          refine' tF 1 F ?_
          refine' tO 2 ?_
          refine' tO 3 ?_
          refine' tO 4 ?_
          refine' tO 5 ?_
          refine' tO 6 ?_
          refine' tO 7 ?_
          refine' tO 8 ?_
          refine' tO 9 ?_
          refine' tO 10 ?_
          refine' tF 11 F ?_
          refine' tF 12 F ?_
          refine wpAnyH_done (by kernel_rfl) ?_ _
          have HBY := mz (below_step HB4.out Y)
          clear F Y
          go_wp2_with fail
          go_ret
          exact ⟨by rw [HF.out]; first | done | rfl, HBY.out⟩
        | true =>
          obtain ⟨hlen, hrd⟩ := HE2.out rfl
          have hll := HL1.out
          have h60 : l.length ≤ 60 := by omega
          obtain ⟨ad, eT, hcT⟩ := Kd.at_string HCT.out (l.length : Int) (by omega) (by omega)
          subst eT
          rw [Int.toNat_natCast] at hcT
          rw [hrd] at hcT
          have HCX := mz hcT
          have F : ∀ W' : World, Below w4.heap.size w4 W' → (W'.cell? ⟨gs, 0, none⟩ = some (.string a) ∧ W'.cell? ⟨gs, 1, none⟩ = some (.string t) ∧ W'.cell? ⟨gs, 2, none⟩ = some (.slice A l.length c)) ∧ W'.cell? (ad.add l.length) = some (.string (runB l a).1) := fun W' hb => ⟨cells3 (blk_below BK4.out hb), (hb.cell (World.block_lt_of_cell? _ _ HCX.out)).trans HCX.out⟩
          have HVR : Aside0 (goodB a t l = ((runB l a).1.toList == t.toList)) := ⟨by rw [HV2.out, Bool.true_and, Bool.eq_iff_iff, decide_eq_true_iff, beq_iff_eq]; exact ⟨fun e => by rw [e], ba_ext⟩⟩
          clear hcT hrd HV2 HE2
          have HN := mz hlen
          generalize TS.length = n at *
          refine wp_region_held_drew (S := fun W' => Below w4.heap.size w4 W') (by kernel_rfl) (below_drew1 (Below.refl _ _)) (fun Y => ?_)
          refine' tF 0 F ?_
          refine' tF 1 F ?_
          refine' tF 2 F ?_
          refine' tF 3 F ?_
          refine' tF 4 F ?_
          refine' tF 5 (v := .int .i64 (l.length : Int)) F ?_ (hy := by (intro W' hSw; (try dsimp only at hSw); go_simp; rw [i64_w, w64 (by omega) (by omega)]))
          refine' tF 6 (v := .pointer (some (ad.add l.length))) F ?_ (hy := by (intro W' hSw; (try dsimp only at hSw); go_simp; intro hh; exact absurd hh (by omega)))
          refine' tF 7 F ?_
          refine' tF 8 F ?_
          refine' tF 9 F ?_
          refine' tF 10 F ?_
          refine' tF 11 F ?_
          refine' tF 12 F ?_
          refine wpAnyH_done (by kernel_rfl) ?_ _
          have HBY := mz (below_step HB4.out Y)
          clear F Y
          go_wp2_with fail
          go_ret
          exact ⟨by rw [HVR.out]; first | done | rfl, HBY.out⟩


def spec_GoodServer.f (a0_0 : ByteArray) (a0_1 : ByteArray) (l0_2 : List (S60)) : Option (Bool) := if sizedL l0_2 = true ∧ a0_0.size ≤ maxLen then some (goodB a0_0 a0_1 l0_2) else none
theorem spec_GoodServer.calls (a0_0 : ByteArray) (a0_1 : ByteArray) (A0_2 : Option Addr) (c0_2 : Nat) (l0_2 : List (S60)) (r : Bool) (w : World) (hr0_2 : Kd.C k60 w A0_2 l0_2.length l0_2) (hc0_2 : l0_2.length ≤ c0_2) (h : spec_GoodServer.f a0_0 a0_1 l0_2 = some r) :
    Calls Try.prog 56 #[.agg #[.string a0_0, .string a0_1, .slice A0_2 l0_2.length c0_2]] w fun e w' => e = .returned (.bool r) ∧ Below w.heap.size w w' := by
  unfold spec_GoodServer.f at h
  by_cases hs : sizedL l0_2 = true ∧ a0_0.size ≤ maxLen
  · rw [if_pos hs] at h
    obtain rfl := Option.some.inj h
    exact specGoodServer_walk a0_0 a0_1 A0_2 c0_2 l0_2 w hr0_2 hc0_2 hs.1 hs.2
  · rw [if_neg hs] at h
    exact absurd h (by simp)
theorem specGoodServer_ev (a t : ByteArray) (l : List Entry) (ha : a.size ≤ maxLen) (hs : sizedL l = true) : Ev (fun _ => spec_GoodServer.f a t l) (goodB a t l) := by
  unfold spec_GoodServer.f; rw [if_pos ⟨hs, ha⟩]; exact Ev.now _
end Go.Proofs.Ytjffmnfhlpggfaa.X
namespace Go.Proofs.Ytjffmnfhlpggfaa.X
open Go.RowKit Go.Proofs.YtjffmnfhlpggfaaW.PrintWords Go.Proofs.YtjffmnfhlpggfaaW.PrintLast Go.Proofs.YtjffmnfhlpggfaaW.PrintMore
theorem applyV_size (l : List Part) (t : ByteArray) : (applyV l t).1.size ≤ 300 := by
  unfold applyV
  by_cases h : opB l = true ∧ textB t = true
  · rw [if_pos h]
    unfold ansB
    by_cases q : (appB l t ⟨#[]⟩).2 = true
    · rw [if_pos q]
      have := textB_size (appB_text h.1 h.2 q)
      exact this
    · rw [if_neg q]; exact Nat.zero_le _
  · rw [if_neg h]; exact Nat.zero_le _

set_option maxHeartbeats 4000000 in
set_option maxRecDepth 100000 in
theorem textAt_cells (g : Nat) (a : ByteArray) (A : Option Addr) (c : Nat) (l : List Entry) (v : Nat) (w : World) (x0 : w.cell? ⟨g, 0, none⟩ = some (.string a)) (x2 : w.cell? ⟨g, 2, none⟩ = some (.slice A l.length c))
    (hr : Kd.C k60 w A l.length l) (hc : l.length ≤ c) (hv : v ≤ l.length) (hs : sizedL l = true) (ha : a.size ≤ maxLen) :
    Calls Try.prog 63 #[.pointer (some ⟨g, 0, none⟩), .int .i64 v] w fun e w' => e = .returned (.tuple #[.string (runB (l.take v) a).1, .bool (runB (l.take v) a).2]) ∧ Below w.heap.size w w' := by
  have hlen : l.length ≤ 9223372036854775807 := hr.2.1
  have HR := mz hr
  have HS := mz hs
  have HL := mz hlen
  clear hr hs hlen
  have v0 : (0 : Int) ≤ (v : Int) := by omega
  have v1 : (v : Int) ≤ (c : Int) := by omega
  go_enter Try.func63, Try.ntmps63
  go_wp2
  go_loopg [6, 21] v (fun gg s6 s21 wr => ∃ (kk : Nat) (u : ByteArray), kk ≤ v ∧ v - kk ≤ gg ∧ s6 = .string u ∧ s21 = .int .i64 kk ∧ Aside0 (u.size ≤ maxLen) ∧ Aside0 (Below w.heap.size w wr) ∧ Aside0 (runB (l.take v) a = runB ((l.take v).drop kk) u))
  case atStart => exact ⟨0, a, Nat.zero_le _, by omega, rfl, rfl, ⟨ha⟩, ⟨Below.refl _ w⟩, ⟨rfl⟩⟩
  case round =>
    obtain ⟨kk, u, hkk, hg, rfl, rfl, US, BW, RN⟩ := hrel
    by_cases hlt : kk < v
    · have hltz : (kk : Int) < (v : Int) := by omega
      have hk2 : kk < l.length := by omega
      obtain ⟨ad, A2, c2, e1, hx0, hx1, hx2, hl2, hi2⟩ := at_T60 (Kd.C_below HR.out BW.out) (kk : Int) (by omega) (by omega)
      cases e1
      rw [rd_entry l kk hk2] at hx0 hx1 hx2 hl2 hi2
      rw [Int.toNat_natCast] at hx0 hx1 hx2
      have hsz := sizedL_of HS.out l[kk] (List.getElem_mem hk2)
      have hdr : (l.take v).drop kk = l[kk] :: (l.take v).drop (kk + 1) := by
        rw [List.drop_eq_getElem_cons (by simp; omega)]
        simp
      have RN2 := RN.out
      rw [hdr] at RN2
      clear RN hdr
      generalize l[kk] = y at hx0 hx1 hx2 hl2 hi2 hsz RN2
      obtain ⟨K, hK⟩ := Ev.rounds (implApply_ev y.f2 u hsz US.out)
      have hQ := applyV_size y.f2 u
      have hrun : runB (y :: (l.take v).drop (kk + 1)) u = if (applyV y.f2 u).2 = true then runB ((l.take v).drop (kk + 1)) (applyV y.f2 u).1 else (⟨#[]⟩, false) := rfl
      rw [hrun] at RN2
      clear hrun
      generalize applyV y.f2 u = q at hK hQ RN2
      obtain ⟨q1, q2⟩ := q
      have HK := mz hK
      have HI2 := mz hi2
      have HL2 := mz hl2
      have HQ := mz hQ
      have HRN := mz RN2
      have HWS : Aside0 (w.heap.size ≤ wr.heap.size) := ⟨BW.out.size⟩
      clear hK hi2 hl2 hQ RN2 hsz
      cases q2 with
      | true =>
        go_wp2_with (go_at_call 44; refine (impl_ApplyOp.calls K A2 c2 y.f2 u q1 true _ ?s1 HL2.out HK.out).mono ?_; (case s1 => exact Kd.C_below HI2.out (by repeat (first | exact Below.refl _ _ | apply below_alloc | apply pw_below_drewN | apply below_drew1 | refine below_set ?_ (Nat.le_refl _)))); rintro e w' ⟨rfl, hb'⟩; have HB2 := mz (below_step (by repeat (first | exact BW.out | apply below_alloc | apply pw_below_drewN | apply below_drew1 | refine below_set ?_ HWS.out)) hb'); clear hb')
        go_roundg (v - (kk + 1))
        case measure => omega
        case rel => have hl64 := HL.out; exact ⟨kk + 1, q1, by omega, by omega, rfl, by (first | go_num | (congr 1; unfold wrap64; omega)), ⟨Nat.le_trans HQ.out (by unfold maxLen; omega)⟩, ⟨HB2.out⟩, ⟨HRN.out⟩⟩
      | false =>
        go_wp2_with (go_at_call 44; refine (impl_ApplyOp.calls K A2 c2 y.f2 u q1 false _ ?s1 HL2.out HK.out).mono ?_; (case s1 => exact Kd.C_below HI2.out (by repeat (first | exact Below.refl _ _ | apply below_alloc | apply pw_below_drewN | apply below_drew1 | refine below_set ?_ (Nat.le_refl _)))); rintro e w' ⟨rfl, hb'⟩; have HB2 := mz (below_step (by repeat (first | exact BW.out | apply below_alloc | apply pw_below_drewN | apply below_drew1 | refine below_set ?_ HWS.out)) hb'); clear hb')
        go_ret2
        rw [HRN.out]
        exact ⟨rfl, HB2.out⟩
    · have hltz : ¬ (kk : Int) < (v : Int) := by omega
      have e : kk = v := by omega
      subst e
      go_wp2
      go_ret2
      have h3 := RN.out
      rw [List.drop_eq_nil_of_le (by rw [List.length_take]; omega)] at h3
      rw [h3]
      exact ⟨rfl, BW.out⟩

theorem textAt_walk (g : Nat) (a t : ByteArray) (A : Option Addr) (c : Nat) (l : List Entry) (v : Nat) (w : World) (hblk : w.heap[g]? = some (.cells #[.string a, .string t, .slice A l.length c] 49 (0, 0)))
    (hr : Kd.C k60 w A l.length l) (hc : l.length ≤ c) (hv : v ≤ l.length) (hs : sizedL l = true) (ha : a.size ≤ maxLen) :
    Calls Try.prog 63 #[.pointer (some ⟨g, 0, none⟩), .int .i64 v] w fun e w' => e = .returned (.tuple #[.string (runB (l.take v) a).1, .bool (runB (l.take v) a).2]) ∧ Below w.heap.size w w' :=
  textAt_cells g a A c l v w ((blk_cell hblk 0).trans rfl) ((blk_cell hblk 2).trans rfl) hr hc hv hs ha
theorem lastSeq_at (A : Option Addr) (c : Nat) (l : List Entry) (kk : Nat) (cl : Int) (w : World) (hr : Kd.C k60 w A l.length l) (hc : l.length ≤ c) (hk : kk ≤ l.length) :
    Calls Try.prog 77 #[.slice A kk c, .int .i64 cl] w fun e w' => e = .returned (.int .i64 (lastB cl (l.take kk) 0)) ∧ Below w.heap.size w w' := by
  have hT : (l.take kk).length = kk := by rw [List.length_take]; omega
  have hm := hr.2.1
  obtain ⟨K, hK⟩ := Ev.rounds (lastSeq_ev (l.take kk) cl (by omega))
  have := impl_lastSeq.calls K A c (l.take kk) cl _ w (Kd.C_take hr hk) (by omega) hK
  rwa [hT] at this
theorem okFrom_step (l : List Entry) (kk : Nat) (h : kk < l.length) : okFrom l (l.drop kk) kk = (okAt l kk l[kk] && okFrom l (l.drop (kk + 1)) (kk + 1)) := by
  rw [List.drop_eq_getElem_cons h]; rfl
theorem goodB_short {a t : ByteArray} {l : List Entry} (ha : textB a = true) (hl : l.length ≤ 60) : goodB a t l = (okFrom l l 0 && (runB l a).2 && decide ((runB l a).1 = t)) := by
  simp [goodB, ha, hl]

def Facts (wr : World) (gb gb2 c c2 n n2 : Nat) (A A2 : Option Addr) (f0 f1 : Int) (W : World) : Prop :=
  W.cell? ⟨gb2, 0, none⟩ = some (.int .i64 f0) ∧ W.cell? ⟨gb2, 1, none⟩ = some (.int .i64 f1) ∧ W.cell? ⟨gb2, 2, none⟩ = some (.slice A2 n2 c2) ∧ W.cell? ⟨gb, 2, none⟩ = some (.slice A n c) ∧ Below wr.heap.size wr W
theorem drew_facts {wr W : World} {gb gb2 c c2 n n2 : Nat} {A A2 : Option Addr} {f0 f1 : Int} (h : Facts wr gb gb2 c c2 n n2 A A2 f0 f1 W) : Facts wr gb gb2 c c2 n n2 A A2 f0 f1 W.drew :=
  ⟨h.1, h.2.1, h.2.2.1, h.2.2.2.1, below_drew1 h.2.2.2.2⟩
theorem step_facts {wr W w1 : World} {gb gb2 c c2 n n2 : Nat} {A A2 : Option Addr} {f0 f1 : Int} (h : Facts wr gb gb2 c c2 n n2 A A2 f0 f1 W) (hb : Below W.heap.size W w1) : Facts wr gb gb2 c c2 n n2 A A2 f0 f1 w1 :=
  ⟨(hb.cell (World.block_lt_of_cell? W _ h.1)).trans h.1, (hb.cell (World.block_lt_of_cell? W _ h.2.1)).trans h.2.1, (hb.cell (World.block_lt_of_cell? W _ h.2.2.1)).trans h.2.2.1, (hb.cell (World.block_lt_of_cell? W _ h.2.2.2.1)).trans h.2.2.2.1, below_step h.2.2.2.2 hb⟩
theorem set_facts {wr w3 : World} {gb gb2 c c2 n : Nat} {a t : ByteArray} {A A2 : Option Addr} {n2 : Nat} {f0 f1 : Int} (hb : Below wr.heap.size wr w3) (hg : wr.heap.size ≤ gb2)
    (hbe : w3.heap[gb2]? = some (.cells #[.int .i64 0, .int .i64 0, .slice none 0 0] 60 (0, 0))) (hbk : w3.heap[gb]? = some (.cells #[.string a, .string t, .slice A n c] 49 (0, 0))) (hne : gb ≠ gb2) :
    (((w3.setCell ⟨gb2, 0, none⟩ (.int .i64 f0)).setCell ⟨gb2, 1, none⟩ (.int .i64 f1)).setCell ⟨gb2, 2, none⟩ (.slice A2 n2 c2)).cell? ⟨gb2, 0, none⟩ = some (.int .i64 f0) ∧
    (((w3.setCell ⟨gb2, 0, none⟩ (.int .i64 f0)).setCell ⟨gb2, 1, none⟩ (.int .i64 f1)).setCell ⟨gb2, 2, none⟩ (.slice A2 n2 c2)).cell? ⟨gb2, 1, none⟩ = some (.int .i64 f1) ∧
    (((w3.setCell ⟨gb2, 0, none⟩ (.int .i64 f0)).setCell ⟨gb2, 1, none⟩ (.int .i64 f1)).setCell ⟨gb2, 2, none⟩ (.slice A2 n2 c2)).cell? ⟨gb2, 2, none⟩ = some (.slice A2 n2 c2) ∧
    (((w3.setCell ⟨gb2, 0, none⟩ (.int .i64 f0)).setCell ⟨gb2, 1, none⟩ (.int .i64 f1)).setCell ⟨gb2, 2, none⟩ (.slice A2 n2 c2)).cell? ⟨gb, 2, none⟩ = some (.slice A n c) ∧
    Below wr.heap.size wr (((w3.setCell ⟨gb2, 0, none⟩ (.int .i64 f0)).setCell ⟨gb2, 1, none⟩ (.int .i64 f1)).setCell ⟨gb2, 2, none⟩ (.slice A2 n2 c2)) := by
  have h1 := blk_put (cs' := #[.int .i64 f0, .int .i64 f1, .slice A2 n2 c2]) (blk_put (cs' := #[.int .i64 f0, .int .i64 f1, .slice none 0 0]) (blk_put (cs' := #[.int .i64 f0, .int .i64 0, .slice none 0 0]) hbe 0 (.int .i64 f0) rfl) 1 (.int .i64 f1) rfl) 2 (.slice A2 n2 c2) rfl
  have h2 := blk_far (p := ⟨gb2, 2, none⟩) (blk_far (p := ⟨gb2, 1, none⟩) (blk_far (p := ⟨gb2, 0, none⟩) hbk hne (.int .i64 f0)) hne (.int .i64 f1)) hne (.slice A2 n2 c2)
  exact ⟨(blk_cell h1 0).trans rfl, (blk_cell h1 1).trans rfl, (blk_cell h1 2).trans rfl, (blk_cell h2 2).trans rfl, below_set (below_set (below_set hb hg) hg) hg⟩
theorem textAt_full (g : Nat) (a t : ByteArray) (A : Option Addr) (c : Nat) (l : List Entry) (q1 : ByteArray) (q2 : Bool) (w : World) (hblk : w.heap[g]? = some (.cells #[.string a, .string t, .slice A l.length c] 49 (0, 0)))
    (hr : Kd.C k60 w A l.length l) (hc : l.length ≤ c) (hs : sizedL l = true) (ha : a.size ≤ maxLen) (hq : runB l a = (q1, q2)) :
    Calls Try.prog 63 #[.pointer (some ⟨g, 0, none⟩), .int .i64 l.length] w fun e w' => e = .returned (.tuple #[.string q1, .bool q2]) ∧ Below w.heap.size w w' := by
  have := textAt_walk g a t A c l l.length w hblk hr hc (Nat.le_refl _) hs ha
  rwa [List.take_length, hq] at this

set_option maxHeartbeats 8000000 in
set_option maxRecDepth 100000 in
theorem goodServer_walk (a t : ByteArray) (A : Option Addr) (c : Nat) (l : List Entry) (w : World)
    (hr : Kd.C k60 w A l.length l) (hc : l.length ≤ c) (hs : sizedL l = true) (ha : a.size ≤ maxLen) :
    Calls Try.prog 72 #[.agg #[.string a, .string t, .slice A l.length c]] w fun e w' => e = .returned (.bool (goodB a t l)) ∧ Below w.heap.size w w' := by
  have hlen : l.length ≤ 9223372036854775807 := hr.2.1
  obtain ⟨K0, hK0⟩ := Ev.rounds (implText_ev a ha)
  have HK0 := mz hK0
  have HR := mz hr
  have HS := mz hs
  have HL := mz hlen
  clear hr hs hK0
  have HG : ∀ b : Bool, textB a = b → Aside0 (impl_GoodText.f K0 a = some b) := fun b e => ⟨by rw [HK0.out, e]⟩
  cases hb0 : textB a with
  | false =>
    have HT := HG false hb0
    have hres : goodB a t l = false := by simp [goodB, hb0]
    rw [hres]
    clear hres hb0 HG HK0
    go_enter Try.func72, Try.ntmps72
    go_wp2_with (first | ((with_reducible refine gate_dst (N := 1) rfl ?_); refine box_event ?hg (N := 1) ?hd (cs := #[.string a, .string t, .slice A l.length c]) (t := 49) ?hr ?_; (case hd => rfl); (case hg => rfl); (case hr => first | (go_simp; done) | (go_simp; rfl)); intro gb hg w3 hbox hb; have HB : Aside0 (Below w.heap.size w w3) := ⟨hb⟩; have x0 : w3.cell? ⟨gb, 0, none⟩ = some (.string a) := (blk_cell hbox 0).trans rfl; clear hb hbox hg) | (go_at_call 88; refine (impl_GoodText.calls K0 a false _ HT.out).mono ?_; rintro e w' ⟨rfl, hb'⟩; have HB2 := mz (below_step HB.out hb'.below); clear hb'))
    go_ret
    exact ⟨rfl, HB2.out⟩
  | true =>
    have HT := HG true hb0
    by_cases hl60 : l.length ≤ 60
    · have hl60z : ¬ (60 : Int) < (l.length : Int) := by omega
      rw [goodB_short hb0 hl60]
      clear hb0 HG HK0
      have HC := mz hc
      have HA := mz ha
      clear ha
      obtain ⟨q1, q2, hq⟩ : ∃ q1 q2, runB l a = (q1, q2) := ⟨_, _, rfl⟩
      have HQ := mz hq
      rw [hq]
      clear hq
      go_enter Try.func72, Try.ntmps72
      go_wp2_with (first | ((with_reducible refine gate_dst (N := 1) rfl ?_); refine box_event ?hg (N := 1) ?hd (cs := #[.string a, .string t, .slice A l.length c]) (t := 49) ?hr ?_; (case hd => rfl); (case hg => rfl); (case hr => first | (go_simp; done) | (go_simp; rfl)); intro gb hg w3 hbox hb; have HB : Aside0 (Below w.heap.size w w3) := ⟨hb⟩; have x0 : w3.cell? ⟨gb, 0, none⟩ = some (.string a) := (blk_cell hbox 0).trans rfl; have BK := mz hbox; clear hb hbox hg) | (go_at_call 88; refine (impl_GoodText.calls K0 a true _ HT.out).mono ?_; rintro e w' ⟨rfl, hb'⟩; have x2 := (blk_cell (blk_below BK.out hb'.below) 2).trans rfl; have HB2 := mz (below_step HB.out hb'.below); have BK2 := mz (blk_below BK.out hb'.below); clear hb'))
      clear x0 BK HB
      go_loopg [20] l.length (fun gg s20 wr => ∃ kk : Nat, kk ≤ l.length ∧ l.length - kk ≤ gg ∧ s20 = .int .i64 kk ∧ Aside0 (Below w.heap.size w wr) ∧ Aside0 (wr.heap[gb]? = some (.cells #[.string a, .string t, .slice A l.length c] 49 (0, 0))) ∧ Aside0 (okFrom l l 0 = okFrom l (l.drop kk) kk))
      case atStart => exact ⟨0, Nat.zero_le _, by omega, rfl, ⟨HB2.out⟩, ⟨BK2.out⟩, ⟨by rw [List.drop_zero]⟩⟩
      case round =>
        clear x2 HB2 BK2
        obtain ⟨kk, hkk, hg, rfl, BW, BK2, OK⟩ := hrel
        by_cases hlt : kk < l.length
        · have hltz : (kk : Int) < (l.length : Int) := by omega
          obtain ⟨ad, A2, c2, e1, hx0, hx1, hx2, hl2, hi2⟩ := at_T60 (Kd.C_below HR.out BW.out) (kk : Int) (by omega) hltz
          cases e1
          rw [rd_entry l kk hlt] at hx0 hx1 hx2 hl2 hi2
          rw [Int.toNat_natCast] at hx0 hx1 hx2
          have hsz := sizedL_of HS.out l[kk] (List.getElem_mem hlt)
          have OK2 := OK.out
          rw [okFrom_step l kk hlt] at OK2
          have hcl := clash_last l kk l[kk]
          clear OK
          generalize l[kk] = y at hx0 hx1 hx2 hl2 hi2 hsz OK2 hcl
          unfold okAt at OK2
          obtain ⟨K1, hK1⟩ := Ev.rounds (isEntry_ev y hsz)
          have HI2 := mz hi2
          have HL2 := mz hl2
          clear hi2 hl2 hsz
          cases q : entryB y with
          | false =>
            rw [q] at hK1 OK2
            have HK1 := mz hK1
            have HF : Aside0 (okFrom l l 0 = false) := ⟨by rw [OK2]; rfl⟩
            clear hK1 OK2 hcl q
            go_wp2_with ((with_reducible refine gate_dst (N := 4) rfl ?_); refine box_event ?hg (N := 4) ?hd (cs := #[.int .i64 0, .int .i64 0, .slice none 0 0]) (t := 60) ?hr ?_; (case hd => rfl); (case hg => rfl); (case hr => first | (go_simp; done) | (go_simp; rfl)); intro gb2 hg2 w3 hbox2 hb3; have HBB : Aside0 (Below wr.heap.size wr w3) := ⟨hb3⟩; have BK3 := mz (blk_below BK2.out hb3); have BE3 := mz hbox2; have NE : Aside0 (gb ≠ gb2) := ⟨by rw [hg2]; exact Nat.ne_of_lt (blk_lt BK2.out)⟩; have G2 : Aside0 (wr.heap.size ≤ gb2) := ⟨by rw [hg2]; first | exact Nat.le_refl _ | simp⟩; have GW : Aside0 (w.heap.size ≤ gb2) := ⟨Nat.le_trans BW.out.size G2.out⟩; have z0 : w3.cell? ⟨gb2, 0, none⟩ = some (.int .i64 0) := (blk_cell hbox2 0).trans rfl; have z1 : w3.cell? ⟨gb2, 1, none⟩ = some (.int .i64 0) := (blk_cell hbox2 1).trans rfl; have z2 : w3.cell? ⟨gb2, 2, none⟩ = some (.slice none 0 0) := (blk_cell hbox2 2).trans rfl; have f0 := blk_frozen hbox2 0; have f1 := blk_frozen hbox2 1; have f2 := blk_frozen hbox2 2; clear hb3 hbox2 hg2)
            have u2 : w3.cell? ⟨gb, 2, none⟩ = some (.slice (some ad) l.length c) := (blk_cell BK3.out 2).trans rfl
            have SW : Aside0 (Facts wr gb gb2 c c2 l.length y.f2.length (some ad) A2 y.f0 y.f1 (((w3.setCell ⟨gb2, 0, none⟩ (.int .i64 y.f0)).setCell ⟨gb2, 1, none⟩ (.int .i64 y.f1)).setCell ⟨gb2, 2, none⟩ (.slice A2 y.f2.length c2))) := ⟨set_facts HBB.out G2.out BE3.out BK3.out NE.out⟩
            refine wp_region_held_drew (S := (fun w' => w'.cell? ⟨gb2, 0, none⟩ = some (.int .i64 y.f0) ∧ w'.cell? ⟨gb2, 1, none⟩ = some (.int .i64 y.f1) ∧ w'.cell? ⟨gb2, 2, none⟩ = some (.slice A2 y.f2.length c2) ∧ w'.cell? ⟨gb, 2, none⟩ = some (.slice (some ad) l.length c) ∧ Aside0 (Below wr.heap.size wr w'))) (by kernel_rfl) ⟨SW.out.1, SW.out.2.1, SW.out.2.2.1, SW.out.2.2.2.1, mz (below_drew1 SW.out.2.2.2.2)⟩ (fun hHeld => ?_)
            refine wpAnyH_take (i := 0) (v := ?v0) rfl (by kernel_rfl) (by kernel_rfl) (by kernel_rfl) (fun _ _ _ h => h) (Or.inl ⟨by rfl, ?y0⟩) (by assumption) ?r0
            case y0 => (intro w hSw; (try dsimp only at hSw); (first | (go_simp; done) | (go_simp; with_reducible rfl)))
            (try simp only [Act.put, List.getElem_toArray, List.getElem_cons_succ, List.getElem_cons_zero, List.setIfInBounds_toArray, List.set_cons_zero, List.set_cons_succ])
            refine wpAnyH_ready (rs := [1]) (by kernel_rfl) (by simp) ?_
            refine AllReadyH.cons rfl (fun K hK => ?_) AllReadyH.nil
            go_simp
            go_at_call 74
            refine (impl_isEntry.calls K1 y.f0 y.f1 A2 c2 y.f2 false _ ?_ HL2.out HK1.out).mono ?_
            · exact Kd.C_below HI2.out (below_drew1 SW.out.2.2.2.2)
            rintro e w5 ⟨rfl, hb5⟩
            have TA := mz (step_facts (drew_facts SW.out) hb5)
            clear hb5
            (try dsimp only)
            refine hK.out _ _ ⟨TA.out.1, TA.out.2.1, TA.out.2.2.1, TA.out.2.2.2.1, mz TA.out.2.2.2.2⟩ (fun hHeld2 => ?_)
            clear hK K
            (try simp only [Act.put, List.getElem_toArray, List.getElem_cons_succ, List.getElem_cons_zero, List.setIfInBounds_toArray, List.set_cons_zero, List.set_cons_succ])
            refine wpAnyH_take (i := 2) (v := ?v2) rfl (by kernel_rfl) (by kernel_rfl) (by kernel_rfl) (fun _ _ _ h => h) (Or.inl ⟨by rfl, ?y2⟩) (by assumption) ?r2
            case y2 => (intro w hSw; (try dsimp only at hSw); (first | (go_simp; done) | (go_simp; with_reducible rfl)))
            (try simp only [Act.put, List.getElem_toArray, List.getElem_cons_succ, List.getElem_cons_zero, List.setIfInBounds_toArray, List.set_cons_zero, List.set_cons_succ])
            refine wpAnyH_take (i := 3) (v := ?v3) rfl (by kernel_rfl) (by kernel_rfl) (by kernel_rfl) (fun _ _ _ h => h) (Or.inl ⟨by rfl, ?y3⟩) (by assumption) ?r3
            case y3 => (intro w hSw; (try dsimp only at hSw); (first | (go_simp; done) | (go_simp; with_reducible rfl)))
            (try simp only [Act.put, List.getElem_toArray, List.getElem_cons_succ, List.getElem_cons_zero, List.setIfInBounds_toArray, List.set_cons_zero, List.set_cons_succ])
            refine wpAnyH_take (i := 4) (v := undef) rfl (by kernel_rfl) (by kernel_rfl) (by kernel_rfl) (fun _ _ _ h => h) (Or.inr ⟨by rfl, rfl⟩) (by assumption) ?_
            (try simp only [Act.put, List.getElem_toArray, List.getElem_cons_succ, List.getElem_cons_zero, List.setIfInBounds_toArray, List.set_cons_zero, List.set_cons_succ])
            refine wpAnyH_take (i := 5) (v := undef) rfl (by kernel_rfl) (by kernel_rfl) (by kernel_rfl) (fun _ _ _ h => h) (Or.inr ⟨by rfl, rfl⟩) (by assumption) ?_
            (try simp only [Act.put, List.getElem_toArray, List.getElem_cons_succ, List.getElem_cons_zero, List.setIfInBounds_toArray, List.set_cons_zero, List.set_cons_succ])
            refine wpAnyH_take (i := 6) (v := undef) rfl (by kernel_rfl) (by kernel_rfl) (by kernel_rfl) (fun _ _ _ h => h) (Or.inr ⟨by rfl, rfl⟩) (by assumption) ?_
            (try simp only [Act.put, List.getElem_toArray, List.getElem_cons_succ, List.getElem_cons_zero, List.setIfInBounds_toArray, List.set_cons_zero, List.set_cons_succ])
            refine wpAnyH_take (i := 7) (v := undef) rfl (by kernel_rfl) (by kernel_rfl) (by kernel_rfl) (fun _ _ _ h => h) (Or.inr ⟨by rfl, rfl⟩) (by assumption) ?_
            (try simp only [Act.put, List.getElem_toArray, List.getElem_cons_succ, List.getElem_cons_zero, List.setIfInBounds_toArray, List.set_cons_zero, List.set_cons_succ])
            refine wpAnyH_take (i := 8) (v := undef) rfl (by kernel_rfl) (by kernel_rfl) (by kernel_rfl) (fun _ _ _ h => h) (Or.inr ⟨by rfl, rfl⟩) (by assumption) ?_
            (try simp only [Act.put, List.getElem_toArray, List.getElem_cons_succ, List.getElem_cons_zero, List.setIfInBounds_toArray, List.set_cons_zero, List.set_cons_succ])
            refine wpAnyH_take (i := 9) (v := undef) rfl (by kernel_rfl) (by kernel_rfl) (by kernel_rfl) (fun _ _ _ h => h) (Or.inr ⟨by rfl, rfl⟩) (by assumption) ?_
            (try simp only [Act.put, List.getElem_toArray, List.getElem_cons_succ, List.getElem_cons_zero, List.setIfInBounds_toArray, List.set_cons_zero, List.set_cons_succ])
            refine wpAnyH_take (i := 11) (v := undef) rfl (by kernel_rfl) (by kernel_rfl) (by kernel_rfl) (fun _ _ _ h => h) (Or.inr ⟨by rfl, rfl⟩) (by assumption) ?_
            (try simp only [Act.put, List.getElem_toArray, List.getElem_cons_succ, List.getElem_cons_zero, List.setIfInBounds_toArray, List.set_cons_zero, List.set_cons_succ])
            refine wpAnyH_take (i := 12) (v := undef) rfl (by kernel_rfl) (by kernel_rfl) (by kernel_rfl) (fun _ _ _ h => h) (Or.inr ⟨by rfl, rfl⟩) (by assumption) ?_
            (try simp only [Act.put, List.getElem_toArray, List.getElem_cons_succ, List.getElem_cons_zero, List.setIfInBounds_toArray, List.set_cons_zero, List.set_cons_succ])
            refine wpAnyH_take (i := 10) (v := undef) rfl (by kernel_rfl) (by kernel_rfl) (by kernel_rfl) (fun _ _ _ h => h) (Or.inr ⟨by rfl, rfl⟩) (by assumption) ?_
            (try simp only [Act.put, List.getElem_toArray, List.getElem_cons_succ, List.getElem_cons_zero, List.setIfInBounds_toArray, List.set_cons_zero, List.set_cons_succ])
            refine wpAnyH_take (i := 13) (v := undef) rfl (by kernel_rfl) (by kernel_rfl) (by kernel_rfl) (fun _ _ _ h => h) (Or.inr ⟨by rfl, rfl⟩) (by assumption) ?_
            (try simp only [Act.put, List.getElem_toArray, List.getElem_cons_succ, List.getElem_cons_zero, List.setIfInBounds_toArray, List.set_cons_zero, List.set_cons_succ])
            refine wpAnyH_take (i := 14) (v := ?v14) rfl (by kernel_rfl) (by kernel_rfl) (by kernel_rfl) (fun _ _ _ h => h) (Or.inl ⟨by rfl, ?y14⟩) (by assumption) ?r14
            case y14 => (intro w hSw; (try dsimp only at hSw); (first | (go_simp; done) | (go_simp; with_reducible rfl)))
            (try simp only [Act.put, List.getElem_toArray, List.getElem_cons_succ, List.getElem_cons_zero, List.setIfInBounds_toArray, List.set_cons_zero, List.set_cons_succ])
            refine wpAnyH_done (by kernel_rfl) ?_ _
            go_wp2
            go_ret
            exact ⟨by rw [HF.out]; rfl, below_step BW.out TA.out.2.2.2.2⟩
          | true =>
            have hy1 := (entryB_of q).2.2.1
            rw [q] at hK1 OK2
            rw [hcl hy1] at OK2
            have HK1 := mz hK1
            clear hK1 hcl q hy1
            by_cases q2 : y.f1 ≤ lastB y.f0 (l.take kk) 0
            · rw [decide_eq_true q2] at OK2
              have HF : Aside0 (okFrom l l 0 = false) := ⟨by rw [OK2]; rfl⟩
              clear OK2
              have ik0 : (0 : Int) ≤ (kk : Int) := by omega
              have ik1 : (kk : Int) ≤ (c : Int) := by omega
              go_wp2_with ((with_reducible refine gate_dst (N := 4) rfl ?_); refine box_event ?hg (N := 4) ?hd (cs := #[.int .i64 0, .int .i64 0, .slice none 0 0]) (t := 60) ?hr ?_; (case hd => rfl); (case hg => rfl); (case hr => first | (go_simp; done) | (go_simp; rfl)); intro gb2 hg2 w3 hbox2 hb3; have HBB : Aside0 (Below wr.heap.size wr w3) := ⟨hb3⟩; have BK3 := mz (blk_below BK2.out hb3); have BE3 := mz hbox2; have NE : Aside0 (gb ≠ gb2) := ⟨by rw [hg2]; exact Nat.ne_of_lt (blk_lt BK2.out)⟩; have G2 : Aside0 (wr.heap.size ≤ gb2) := ⟨by rw [hg2]; first | exact Nat.le_refl _ | simp⟩; have GW : Aside0 (w.heap.size ≤ gb2) := ⟨Nat.le_trans BW.out.size G2.out⟩; have z0 : w3.cell? ⟨gb2, 0, none⟩ = some (.int .i64 0) := (blk_cell hbox2 0).trans rfl; have z1 : w3.cell? ⟨gb2, 1, none⟩ = some (.int .i64 0) := (blk_cell hbox2 1).trans rfl; have z2 : w3.cell? ⟨gb2, 2, none⟩ = some (.slice none 0 0) := (blk_cell hbox2 2).trans rfl; have f0 := blk_frozen hbox2 0; have f1 := blk_frozen hbox2 1; have f2 := blk_frozen hbox2 2; clear hb3 hbox2 hg2)
              have u2 : w3.cell? ⟨gb, 2, none⟩ = some (.slice (some ad) l.length c) := (blk_cell BK3.out 2).trans rfl
              have SW : Aside0 (Facts wr gb gb2 c c2 l.length y.f2.length (some ad) A2 y.f0 y.f1 (((w3.setCell ⟨gb2, 0, none⟩ (.int .i64 y.f0)).setCell ⟨gb2, 1, none⟩ (.int .i64 y.f1)).setCell ⟨gb2, 2, none⟩ (.slice A2 y.f2.length c2))) := ⟨set_facts HBB.out G2.out BE3.out BK3.out NE.out⟩
              go_region_held3 (fun w' => w'.cell? ⟨gb2, 0, none⟩ = some (.int .i64 y.f0) ∧ w'.cell? ⟨gb2, 1, none⟩ = some (.int .i64 y.f1) ∧ w'.cell? ⟨gb2, 2, none⟩ = some (.slice A2 y.f2.length c2) ∧ w'.cell? ⟨gb, 2, none⟩ = some (.slice (some ad) l.length c) ∧ Aside0 (Below wr.heap.size wr w')) (first | exact ⟨SW.out.1, SW.out.2.1, SW.out.2.2.1, SW.out.2.2.2.1, mz (below_drew1 SW.out.2.2.2.2)⟩ | exact ⟨TB.out.1, TB.out.2.1, TB.out.2.2.1, TB.out.2.2.2.1, mz TB.out.2.2.2.2⟩ | exact ⟨TA.out.1, TA.out.2.1, TA.out.2.2.1, TA.out.2.2.2.1, mz TA.out.2.2.2.2⟩) (first | (go_at_call 74; refine (impl_isEntry.calls K1 y.f0 y.f1 A2 c2 y.f2 true _ ?_ HL2.out HK1.out).mono ?_; (exact Kd.C_below HI2.out (below_drew1 SW.out.2.2.2.2)); rintro e w5 ⟨rfl, hb5⟩; have TA := mz (step_facts (drew_facts SW.out) hb5); clear hb5) | (go_at_call 77; refine (lastSeq_at (some ad) c l kk y.f0 _ ?_ HC.out (Nat.le_of_lt hlt)).mono ?_; (exact Kd.C_below HR.out (below_step BW.out TA.out.2.2.2.2)); rintro e w6 ⟨rfl, hb6⟩; have TB := mz (step_facts TA.out hb6); clear hb6))
              go_wp2
              go_ret
              exact ⟨by rw [HF.out]; rfl, below_step BW.out TB.out.2.2.2.2⟩
            · rw [decide_eq_false q2] at OK2
              have HF : Aside0 (okFrom l l 0 = okFrom l (l.drop (kk + 1)) (kk + 1)) := ⟨by rw [OK2]; simp⟩
              clear OK2
              have ik0 : (0 : Int) ≤ (kk : Int) := by omega
              have ik1 : (kk : Int) ≤ (c : Int) := by omega
              go_wp2_with ((with_reducible refine gate_dst (N := 4) rfl ?_); refine box_event ?hg (N := 4) ?hd (cs := #[.int .i64 0, .int .i64 0, .slice none 0 0]) (t := 60) ?hr ?_; (case hd => rfl); (case hg => rfl); (case hr => first | (go_simp; done) | (go_simp; rfl)); intro gb2 hg2 w3 hbox2 hb3; have HBB : Aside0 (Below wr.heap.size wr w3) := ⟨hb3⟩; have BK3 := mz (blk_below BK2.out hb3); have BE3 := mz hbox2; have NE : Aside0 (gb ≠ gb2) := ⟨by rw [hg2]; exact Nat.ne_of_lt (blk_lt BK2.out)⟩; have G2 : Aside0 (wr.heap.size ≤ gb2) := ⟨by rw [hg2]; first | exact Nat.le_refl _ | simp⟩; have GW : Aside0 (w.heap.size ≤ gb2) := ⟨Nat.le_trans BW.out.size G2.out⟩; have z0 : w3.cell? ⟨gb2, 0, none⟩ = some (.int .i64 0) := (blk_cell hbox2 0).trans rfl; have z1 : w3.cell? ⟨gb2, 1, none⟩ = some (.int .i64 0) := (blk_cell hbox2 1).trans rfl; have z2 : w3.cell? ⟨gb2, 2, none⟩ = some (.slice none 0 0) := (blk_cell hbox2 2).trans rfl; have f0 := blk_frozen hbox2 0; have f1 := blk_frozen hbox2 1; have f2 := blk_frozen hbox2 2; clear hb3 hbox2 hg2)
              have u2 : w3.cell? ⟨gb, 2, none⟩ = some (.slice (some ad) l.length c) := (blk_cell BK3.out 2).trans rfl
              have SW : Aside0 (Facts wr gb gb2 c c2 l.length y.f2.length (some ad) A2 y.f0 y.f1 (((w3.setCell ⟨gb2, 0, none⟩ (.int .i64 y.f0)).setCell ⟨gb2, 1, none⟩ (.int .i64 y.f1)).setCell ⟨gb2, 2, none⟩ (.slice A2 y.f2.length c2))) := ⟨set_facts HBB.out G2.out BE3.out BK3.out NE.out⟩
              go_region_held3 (fun w' => w'.cell? ⟨gb2, 0, none⟩ = some (.int .i64 y.f0) ∧ w'.cell? ⟨gb2, 1, none⟩ = some (.int .i64 y.f1) ∧ w'.cell? ⟨gb2, 2, none⟩ = some (.slice A2 y.f2.length c2) ∧ w'.cell? ⟨gb, 2, none⟩ = some (.slice (some ad) l.length c) ∧ Aside0 (Below wr.heap.size wr w')) (first | exact ⟨SW.out.1, SW.out.2.1, SW.out.2.2.1, SW.out.2.2.2.1, mz (below_drew1 SW.out.2.2.2.2)⟩ | exact ⟨TB.out.1, TB.out.2.1, TB.out.2.2.1, TB.out.2.2.2.1, mz TB.out.2.2.2.2⟩ | exact ⟨TA.out.1, TA.out.2.1, TA.out.2.2.1, TA.out.2.2.2.1, mz TA.out.2.2.2.2⟩) (first | (go_at_call 74; refine (impl_isEntry.calls K1 y.f0 y.f1 A2 c2 y.f2 true _ ?_ HL2.out HK1.out).mono ?_; (exact Kd.C_below HI2.out (below_drew1 SW.out.2.2.2.2)); rintro e w5 ⟨rfl, hb5⟩; have TA := mz (step_facts (drew_facts SW.out) hb5); clear hb5) | (go_at_call 77; refine (lastSeq_at (some ad) c l kk y.f0 _ ?_ HC.out (Nat.le_of_lt hlt)).mono ?_; (exact Kd.C_below HR.out (below_step BW.out TA.out.2.2.2.2)); rintro e w6 ⟨rfl, hb6⟩; have TB := mz (step_facts TA.out hb6); clear hb6))
              go_wp2
              go_roundg (l.length - (kk + 1))
              case measure => omega
              case rel => have hl64 := HL.out; exact ⟨kk + 1, by omega, by omega, by (first | go_num | (congr 1; unfold wrap64; omega)), ⟨below_step BW.out TB.out.2.2.2.2⟩, ⟨blk_below BK2.out TB.out.2.2.2.2⟩, ⟨HF.out⟩⟩
        · have hltz : ¬ (kk : Int) < (l.length : Int) := by omega
          have HF : Aside0 (okFrom l l 0 = true) := ⟨by rw [OK.out, List.drop_eq_nil_of_le (by omega)]; rfl⟩
          have x2 : wr.cell? ⟨gb, 2, none⟩ = some (.slice A l.length c) := (blk_cell BK2.out 2).trans rfl
          clear OK
          cases q2 with
          | false =>
            go_wp2_with (go_at_call 63; refine (textAt_full gb a t A c l q1 false _ BK2.out (Kd.C_below HR.out BW.out) HC.out HS.out HA.out HQ.out).mono ?_; rintro e w6 ⟨rfl, hb6⟩; have HB6 := mz (below_step BW.out hb6); have y1 : w6.cell? ⟨gb, 1, none⟩ = some (.string t) := (blk_cell (blk_below BK2.out hb6) 1).trans rfl; clear hb6)
            go_ret
            exact ⟨by rw [HF.out]; rfl, HB6.out⟩
          | true =>
            by_cases hqt : q1.toList = t.toList
            · have hqt' : (q1.toList == t.toList) = true := beq_iff_eq.2 hqt
              go_wp2_with (go_at_call 63; refine (textAt_full gb a t A c l q1 true _ BK2.out (Kd.C_below HR.out BW.out) HC.out HS.out HA.out HQ.out).mono ?_; rintro e w6 ⟨rfl, hb6⟩; have HB6 := mz (below_step BW.out hb6); have y1 : w6.cell? ⟨gb, 1, none⟩ = some (.string t) := (blk_cell (blk_below BK2.out hb6) 1).trans rfl; clear hb6)
              go_ret
              exact ⟨by rw [HF.out]; simp [ba_ext hqt], HB6.out⟩
            · have hqt' : (q1.toList == t.toList) = false := beq_eq_false_iff_ne.2 hqt
              have hne : Aside0 (decide (q1 = t) = false) := ⟨decide_eq_false (fun h => hqt (by rw [h]))⟩
              go_wp2_with (go_at_call 63; refine (textAt_full gb a t A c l q1 true _ BK2.out (Kd.C_below HR.out BW.out) HC.out HS.out HA.out HQ.out).mono ?_; rintro e w6 ⟨rfl, hb6⟩; have HB6 := mz (below_step BW.out hb6); have y1 : w6.cell? ⟨gb, 1, none⟩ = some (.string t) := (blk_cell (blk_below BK2.out hb6) 1).trans rfl; clear hb6)
              go_ret
              exact ⟨by rw [HF.out, hne.out]; rfl, HB6.out⟩
    · have hl60z : (60 : Int) < (l.length : Int) := by omega
      have hres : goodB a t l = false := by simp [goodB, hl60]
      rw [hres]
      clear hres hb0 HG HK0
      go_enter Try.func72, Try.ntmps72
      go_wp2_with (first | ((with_reducible refine gate_dst (N := 1) rfl ?_); refine box_event ?hg (N := 1) ?hd (cs := #[.string a, .string t, .slice A l.length c]) (t := 49) ?hr ?_; (case hd => rfl); (case hg => rfl); (case hr => first | (go_simp; done) | (go_simp; rfl)); intro gb hg w3 hbox hb; have HB : Aside0 (Below w.heap.size w w3) := ⟨hb⟩; have x0 : w3.cell? ⟨gb, 0, none⟩ = some (.string a) := (blk_cell hbox 0).trans rfl; have BK := mz hbox; clear hb hbox hg) | (go_at_call 88; refine (impl_GoodText.calls K0 a true _ HT.out).mono ?_; rintro e w' ⟨rfl, hb'⟩; have x2 := (blk_cell (blk_below BK.out hb'.below) 2).trans rfl; have HB2 := mz (below_step HB.out hb'.below); clear hb'))
      go_ret
      exact ⟨rfl, HB2.out⟩

def impl_GoodServer.f (a0_0 : ByteArray) (a0_1 : ByteArray) (l0_2 : List (S60)) : Option (Bool) := if sizedL l0_2 = true ∧ a0_0.size ≤ maxLen then some (goodB a0_0 a0_1 l0_2) else none
theorem impl_GoodServer.calls (a0_0 : ByteArray) (a0_1 : ByteArray) (A0_2 : Option Addr) (c0_2 : Nat) (l0_2 : List (S60)) (r : Bool) (w : World) (hr0_2 : Kd.C k60 w A0_2 l0_2.length l0_2) (hc0_2 : l0_2.length ≤ c0_2) (h : impl_GoodServer.f a0_0 a0_1 l0_2 = some r) :
    Calls Try.prog 72 #[.agg #[.string a0_0, .string a0_1, .slice A0_2 l0_2.length c0_2]] w fun e w' => e = .returned (.bool r) ∧ Below w.heap.size w w' := by
  unfold impl_GoodServer.f at h
  by_cases hs : sizedL l0_2 = true ∧ a0_0.size ≤ maxLen
  · rw [if_pos hs] at h
    obtain rfl := Option.some.inj h
    exact goodServer_walk a0_0 a0_1 A0_2 c0_2 l0_2 w hr0_2 hc0_2 hs.1 hs.2
  · rw [if_neg hs] at h
    exact absurd h (by simp)
section
attribute [local go_sem] max2_int min2_int max_two min_two max_three min_three max_four min_four
def impl_hasVersion.f (a0_0 : ByteArray) (a0_1 : ByteArray) (l0_2 : List (S60)) (a1 : Int) : Option (Bool) := if a1 ≥ 0 then (if a1 ≤ (l0_2.length : Int) then ((impl_GoodServer.f a0_0 a0_1 l0_2).bind fun t102 => (some t102)) else (some false)) else (some false)
set_option maxHeartbeats 8000000 in
set_option maxRecDepth 100000 in
theorem impl_hasVersion.calls (a0_0 : ByteArray) (a0_1 : ByteArray) (A0_2 : Option Addr) (c0_2 : Nat) (l0_2 : List (S60)) (a1 : Int) (r : Bool) (w : World) (hr0_2 : Kd.C k60 w A0_2 l0_2.length l0_2) (hc0_2 : l0_2.length ≤ c0_2) (h : impl_hasVersion.f a0_0 a0_1 l0_2 a1 = some r) :
    Calls Try.prog 62 #[.agg #[.string a0_0, .string a0_1, .slice A0_2 l0_2.length c0_2], .int .i64 a1] w fun e w' => e = .returned (.bool r) ∧ Below w.heap.size w w' := by
  have hu49 := Try.underlying49
  have HR0_2 := mz hr0_2
  have HC0_2 := mz hc0_2
  clear hr0_2 hc0_2
  have HB := mz (Below.refl w.heap.size w)
  have H : (if a1 ≥ 0 then (if a1 ≤ (l0_2.length : Int) then ((impl_GoodServer.f a0_0 a0_1 l0_2).bind fun t102 => (some t102)) else (some false)) else (some false)) = some r := h
  clear h
  by_cases c3 : a1 ≥ 0
  · rw [if_pos c3] at H
    have c3b0 : decide (0 ≤ a1) = true := decide_eq_true c3
    clear c3
    by_cases c4 : a1 ≤ (l0_2.length : Int)
    · rw [if_pos c4] at H
      have c4b0 : decide (a1 ≤ (l0_2.length : Int)) = true := decide_eq_true c4
      clear c4
      replace H := be0_ H
      obtain ⟨t102, A50, H⟩ := H
      replace H : (some t102) = some r := H
      have A5 := mz A50
      clear A50
      obtain rfl := Option.some.inj H
      go_enter Try.func62, Try.ntmps62
      go_wp2_with (first | ((with_reducible refine gate_dst (N := 2) rfl ?_); (try (refine gate_guard (by rfl) ?_; dsimp only)); refine box_event ?hg (N := 2) ?hd (cs := #[.string a0_0, .string a0_1, .slice A0_2 l0_2.length c0_2]) (t := 49) ?hr ?_; (case hd => rfl); (case hg => rfl); (case hr => first | (go_simp; done) | (go_simp; rfl)); intro gb101 hg w6 hbox hb; have n0_ := mz (below_step (by repeat (first | (with_reducible first | exact HB.out | apply below_alloc | apply pw_below_drewN | apply below_drew1) | exact HB.out)) hb); have n1_ := mz (hbox); have n2_ := mz ((by rw [hg]; exact (below_size (by repeat (first | (with_reducible first | exact HB.out | apply below_alloc | apply pw_below_drewN | apply below_drew1) | exact HB.out))) : w.heap.size ≤ gb101)); have n3_ := mz ((by rw [hg]; exact (below_size (by repeat (first | (with_reducible first | exact HB.out | apply below_alloc | apply pw_below_drewN | apply below_drew1) | exact HB.out))) : w.heap.size ≤ gb101)); clear HB; have HB := n0_; have BK101 := n1_; have GW101 := n2_; have GE101 := n3_; clear n0_ n1_ n2_ n3_; clear hb hbox hg; have hcz7_0 : w6.cell? ⟨gb101, 0, none⟩ = some (.string a0_0) := (blk_cell BK101.out 0).trans rfl; have hcz7_1 : w6.cell? ⟨gb101, 1, none⟩ = some (.string a0_1) := (blk_cell BK101.out 1).trans rfl; have hcz7_2 : w6.cell? ⟨gb101, 2, none⟩ = some (.slice A0_2 l0_2.length c0_2) := (blk_cell BK101.out 2).trans rfl; have hfz7_0 := blk_frozen BK101.out 0; have hfz7_1 := blk_frozen BK101.out 1; have hfz7_2 := blk_frozen BK101.out 2) | (go_at_call 72; (with_reducible refine (impl_GoodServer.calls a0_0 a0_1 _ _ l0_2 t102 _ ?side1 ?side2 A5.out).mono ?_); (case side1 => repeat (first | exact (Kd.C_below HR0_2.out HB.out) | (with_reducible refine Kd.C_alloc ?_ _) | (with_reducible refine Kd.C_drewN ?_ _) | (with_reducible refine Kd.C_drew ?_))); (case side2 => exact HC0_2.out); rintro e w8 ⟨rfl, hb⟩; have n0_ := mz (blk_below (g := gb101) (o := .cells #[.string a0_0, .string a0_1, .slice A0_2 l0_2.length c0_2] 49 (0, 0)) (by (with_reducible repeat (first | refine blk_drewN ?_ _ | refine blk_drew ?_ | refine blk_alloc ?_ _)); exact BK101.out) hb); have n1_ := mz (below_step (by repeat (first | (with_reducible first | exact HB.out | apply below_alloc | apply pw_below_drewN | apply below_drew1 | refine below_set ?_ GE101.out) | exact HB.out)) hb); clear BK101; clear HB; have BK101 := n0_; have HB := n1_; clear n0_ n1_; (try clear hb); (try clear hb2); (try clear hk); (try clear hi)))
      go_ret
      exact ⟨by first | rfl | (simp [errW_none, errW_some] <;> rfl) | (simp [*, errW_none, errW_some] <;> rfl), by repeat (first | (with_reducible first | exact HB.out | apply below_alloc | apply pw_below_drewN | apply below_drew1 | refine below_set ?_ GE101.out) | exact HB.out)⟩
    · rw [if_neg c4] at H
      have c4b0 : decide (a1 ≤ (l0_2.length : Int)) = false := decide_eq_false c4
      clear c4
      obtain rfl := Option.some.inj H
      go_enter Try.func62, Try.ntmps62
      go_wp2_with (first | ((with_reducible refine gate_dst (N := 2) rfl ?_); (try (refine gate_guard (by rfl) ?_; dsimp only)); refine box_event ?hg (N := 2) ?hd (cs := #[.string a0_0, .string a0_1, .slice A0_2 l0_2.length c0_2]) (t := 49) ?hr ?_; (case hd => rfl); (case hg => rfl); (case hr => first | (go_simp; done) | (go_simp; rfl)); intro gb101 hg w9 hbox hb; have n0_ := mz (below_step (by repeat (first | (with_reducible first | exact HB.out | apply below_alloc | apply pw_below_drewN | apply below_drew1) | exact HB.out)) hb); have n1_ := mz (hbox); have n2_ := mz ((by rw [hg]; exact (below_size (by repeat (first | (with_reducible first | exact HB.out | apply below_alloc | apply pw_below_drewN | apply below_drew1) | exact HB.out))) : w.heap.size ≤ gb101)); have n3_ := mz ((by rw [hg]; exact (below_size (by repeat (first | (with_reducible first | exact HB.out | apply below_alloc | apply pw_below_drewN | apply below_drew1) | exact HB.out))) : w.heap.size ≤ gb101)); clear HB; have HB := n0_; have BK101 := n1_; have GW101 := n2_; have GE101 := n3_; clear n0_ n1_ n2_ n3_; clear hb hbox hg; have hcz10_0 : w9.cell? ⟨gb101, 0, none⟩ = some (.string a0_0) := (blk_cell BK101.out 0).trans rfl; have hcz10_1 : w9.cell? ⟨gb101, 1, none⟩ = some (.string a0_1) := (blk_cell BK101.out 1).trans rfl; have hcz10_2 : w9.cell? ⟨gb101, 2, none⟩ = some (.slice A0_2 l0_2.length c0_2) := (blk_cell BK101.out 2).trans rfl; have hfz10_0 := blk_frozen BK101.out 0; have hfz10_1 := blk_frozen BK101.out 1; have hfz10_2 := blk_frozen BK101.out 2))
      go_ret
      exact ⟨by first | rfl | (simp [errW_none, errW_some] <;> rfl) | (simp [*, errW_none, errW_some] <;> rfl), by repeat (first | (with_reducible first | exact HB.out | apply below_alloc | apply pw_below_drewN | apply below_drew1 | refine below_set ?_ GE101.out) | exact HB.out)⟩
  · rw [if_neg c3] at H
    have c3b0 : decide (0 ≤ a1) = false := decide_eq_false c3
    clear c3
    obtain rfl := Option.some.inj H
    go_enter Try.func62, Try.ntmps62
    go_wp2_with (first | ((with_reducible refine gate_dst (N := 2) rfl ?_); (try (refine gate_guard (by rfl) ?_; dsimp only)); refine box_event ?hg (N := 2) ?hd (cs := #[.string a0_0, .string a0_1, .slice A0_2 l0_2.length c0_2]) (t := 49) ?hr ?_; (case hd => rfl); (case hg => rfl); (case hr => first | (go_simp; done) | (go_simp; rfl)); intro gb101 hg w11 hbox hb; have n0_ := mz (below_step (by repeat (first | (with_reducible first | exact HB.out | apply below_alloc | apply pw_below_drewN | apply below_drew1) | exact HB.out)) hb); have n1_ := mz (hbox); have n2_ := mz ((by rw [hg]; exact (below_size (by repeat (first | (with_reducible first | exact HB.out | apply below_alloc | apply pw_below_drewN | apply below_drew1) | exact HB.out))) : w.heap.size ≤ gb101)); have n3_ := mz ((by rw [hg]; exact (below_size (by repeat (first | (with_reducible first | exact HB.out | apply below_alloc | apply pw_below_drewN | apply below_drew1) | exact HB.out))) : w.heap.size ≤ gb101)); clear HB; have HB := n0_; have BK101 := n1_; have GW101 := n2_; have GE101 := n3_; clear n0_ n1_ n2_ n3_; clear hb hbox hg))
    go_ret
    exact ⟨by first | rfl | (simp [errW_none, errW_some] <;> rfl) | (simp [*, errW_none, errW_some] <;> rfl), by repeat (first | (with_reducible first | exact HB.out | apply below_alloc | apply pw_below_drewN | apply below_drew1 | refine below_set ?_ GE101.out) | exact HB.out)⟩
end
section
attribute [local go_sem] max2_int min2_int max_two min_two max_three min_three max_four min_four
def impl_KeepAll.f (a0 : Int) : Option ((List (S76)) × Bool) := if a0 < 0 then (some (([] : List (S76)), false)) else (if a0 > 300 then (some (([] : List (S76)), false)) else ((impl_normal.f (([(⟨a0, (⟨#[]⟩ : ByteArray), (⟨#[]⟩ : ByteArray)⟩ : S76)] : List (S76)))).bind fun t104 => (some (t104, true))))
set_option maxHeartbeats 8000000 in
set_option maxRecDepth 100000 in
theorem impl_KeepAll.calls (a0 : Int) (r1 : List (S76)) (r2 : Bool) (w : World) (h : impl_KeepAll.f a0 = some (r1, r2)) :
    Calls Try.prog 64 #[.int .i64 a0] w fun e w' => ∃ v0_ : Value, e = .returned (.tuple #[v0_, .bool r2]) ∧ Kd.R k76 76 w' w.heap.size (fun _ => True) v0_ r1 ∧ Below w.heap.size w w' := by
  have hu76 := Try.underlying76
  have HB := mz (Below.refl w.heap.size w)
  have H : (if a0 < 0 then (some (([] : List (S76)), false)) else (if a0 > 300 then (some (([] : List (S76)), false)) else ((impl_normal.f (([(⟨a0, (⟨#[]⟩ : ByteArray), (⟨#[]⟩ : ByteArray)⟩ : S76)] : List (S76)))).bind fun t104 => (some (t104, true))))) = some (r1, r2) := h
  clear h
  by_cases c2 : a0 < 0
  · rw [if_pos c2] at H
    have c2b0 : decide (a0 < 0) = true := decide_eq_true c2
    clear c2
    simp only [Option.some.injEq, Prod.mk.injEq] at H
    obtain ⟨rfl, rfl⟩ := H
    go_enter Try.func64, Try.ntmps64
    go_wp2
    go_ret2
    exact ⟨_, by first | rfl | (simp [errW_none, errW_some] <;> rfl) | (simp [*, errW_none, errW_some] <;> rfl), by first | exact Kd.R_nil _ _ _ _ _ | exact Kd.N_nil _ _ _ _ _ | exact Kd.V_nil _ _ _ _ _ | exact Kd.Q_nil _ _ _ _ _ | exact Kd.S_nil _ _ _ _ _, by repeat (first | (with_reducible first | exact HB.out | apply below_alloc | apply pw_below_drewN | apply below_drew1) | exact HB.out)⟩
  · rw [if_neg c2] at H
    have c2b0 : decide (a0 < 0) = false := decide_eq_false c2
    clear c2
    by_cases c3 : a0 > 300
    · rw [if_pos c3] at H
      have c3b0 : decide (300 < a0) = true := decide_eq_true c3
      clear c3
      simp only [Option.some.injEq, Prod.mk.injEq] at H
      obtain ⟨rfl, rfl⟩ := H
      go_enter Try.func64, Try.ntmps64
      go_wp2
      go_ret2
      exact ⟨_, by first | rfl | (simp [errW_none, errW_some] <;> rfl) | (simp [*, errW_none, errW_some] <;> rfl), by first | exact Kd.R_nil _ _ _ _ _ | exact Kd.N_nil _ _ _ _ _ | exact Kd.V_nil _ _ _ _ _ | exact Kd.Q_nil _ _ _ _ _ | exact Kd.S_nil _ _ _ _ _, by repeat (first | (with_reducible first | exact HB.out | apply below_alloc | apply pw_below_drewN | apply below_drew1) | exact HB.out)⟩
    · rw [if_neg c3] at H
      have c3b0 : decide (300 < a0) = false := decide_eq_false c3
      clear c3
      obtain ⟨y101, hy101⟩ : ∃ y_ : List (S76), y_ = (([(⟨a0, (⟨#[]⟩ : ByteArray), (⟨#[]⟩ : ByteArray)⟩ : S76)] : List (S76))) := ⟨_, rfl⟩
      replace H : ((impl_normal.f y101).bind fun t104 => (some (t104, true))) = some (r1, r2) := by first | (rw [hy101]; with_reducible exact H) | (have H2_ := (Option.bind_some _ _).symm.trans H; rw [hy101]; with_reducible exact H2_) | (have H2_ := (Option.bind_some _ _).symm.trans H; with_reducible exact H2_) | with_reducible exact H | (rw [hy101]; exact H) | exact H
      have Ny101 := mz hy101
      clear hy101
      replace H := be0_ H
      obtain ⟨t104, A40, H⟩ := H
      replace H : (some (t104, true)) = some (r1, r2) := H
      have A4 := mz A40
      clear A40
      simp only [Option.some.injEq, Prod.mk.injEq] at H
      obtain ⟨rfl, rfl⟩ := H
      go_enter Try.func64, Try.ntmps64
      go_wp2_with (first | ((with_reducible refine gate_dst (N := 12) rfl ?_); refine Kd.R_lit k76 _ 76 ?hg (N := 12) ?hd (xs := ([(⟨a0, (⟨#[]⟩ : ByteArray), (⟨#[]⟩ : ByteArray)⟩ : S76)] : List (S76))) (inner := [.int .i64 a0, .string (⟨#[]⟩ : ByteArray), .string (⟨#[]⟩ : ByteArray)]) (ok := fun _ => True) (okp := fun _ => True) ?hr ?hp (fun _ hk => hk) trivial (Below.refl _ _) (Nat.le_refl _) (by simp) ?_; (case hd => rfl); (case hg => rfl); (case hr => first | (go_simp; done) | (go_simp; rfl)); (case hp => exact (Reps.c3 (show Kd.M k76 _ _ _ (⟨a0, (⟨#[]⟩ : ByteArray), (⟨#[]⟩ : ByteArray)⟩ : S76) [.int .i64 a0, .string (⟨#[]⟩ : ByteArray), .string (⟨#[]⟩ : ByteArray)] from (k76_mkM _ _ _ (⟨a0, (⟨#[]⟩ : ByteArray), (⟨#[]⟩ : ByteArray)⟩ : S76) )) (Reps.none _ _))); intro v102 w5 ho6 hb hg_ hnew_; clear hg_ hnew_; (first | rw [← Ny101.out] at ho6 | (simp only [Int.reduceToNat] at ho6; rw [← Ny101.out] at ho6)); have n0_ := mz (Kd.R_lower ho6 (below_size (by repeat (first | (with_reducible first | exact HB.out | apply below_alloc | apply pw_below_drewN | apply below_drew1) | exact HB.out)))); have n1_ := mz (below_step (by repeat (first | (with_reducible first | exact HB.out | apply below_alloc | apply pw_below_drewN | apply below_drew1) | exact HB.out)) hb); clear HB; have HO103 := n0_; have HB := n1_; clear n0_ n1_; clear hb ho6; obtain ⟨Ao7, co7, eo7⟩ := Kd.R_slice HO103.out; subst eo7) | ((with_reducible refine gate_callee (f := 98) rfl ?_); refine goesL_ (some 13) rfl rfl Try.func98 (by kernel_rfl) rfl #[.slice Ao7 y101.length co7] rfl (by (try simp only [List.map_toArray, List.map_cons, List.map_nil]); first | done | rfl | (simp only [List.length_drop, List.length_take]; rfl)) ?_; (with_reducible refine (impl_normal.calls _ _ y101 t104 _ ?side1 ?side2 A4.out).mono ?_); (case side1 => repeat (first | exact (Kd.R_reads' HO103.out).2.2 | (with_reducible refine Kd.C_alloc ?_ _) | (with_reducible refine Kd.C_drewN ?_ _) | (with_reducible refine Kd.C_drew ?_))); (case side2 => exact (Kd.R_reads' HO103.out).2.1); rintro e w8 ⟨v105, rfl, ho0, hb⟩; refine ⟨_, rfl, ?_⟩; have n0_ := mz (Kd.R_elder' (by (with_reducible repeat (first | apply Kd.R_alloc | apply Kd.R_drewN | apply Kd.R_drew)); exact HO103.out) (Kd.R_base ho0) hb); have n1_ := mz (Kd.R_lower (Kd.R_new' ho0 (Kd.R_lt (by (with_reducible repeat (first | apply Kd.R_alloc | apply Kd.R_drewN | apply Kd.R_drew)); exact HO103.out))) (below_size (by repeat (first | (with_reducible first | exact HB.out | apply below_alloc | apply pw_below_drewN | apply below_drew1) | exact HB.out)))); have n2_ := mz (below_step (by repeat (first | (with_reducible first | exact HB.out | apply below_alloc | apply pw_below_drewN | apply below_drew1) | exact HB.out)) hb); clear HO103; clear HB; have HO103 := n0_; have HO106 := n1_; have HB := n2_; clear n0_ n1_ n2_; (try clear hb); (try clear hb2); (try clear hk); (try clear hi); (try clear ho0)))
      go_ret2
      exact ⟨_, by first | rfl | (simp [errW_none, errW_some] <;> rfl) | (simp [*, errW_none, errW_some] <;> rfl), by (with_reducible repeat (first | apply Kd.R_alloc | apply Kd.R_drewN | apply Kd.R_drew)); exact Kd.R_mono HO106.out (fun _ hk => trivial), by repeat (first | (with_reducible first | exact HB.out | apply below_alloc | apply pw_below_drewN | apply below_drew1) | exact HB.out)⟩
end
def foldC : List Entry → List Part × Bool → List Part × Bool
  | [], r => r
  | e :: l, r => foldC l (if r.2 = true then compV r.1 e.f2 else r)
def finC (r : List Part × Bool) : List Part × Bool := if r.2 = true then (r.1, true) else ([], false)
def cbV (a t : ByteArray) (l : List Entry) (i j : Int) : List Part × Bool :=
  if goodB a t l = true ∧ 0 ≤ i ∧ i ≤ j ∧ j ≤ (l.length : Int) then finC (foldC ((l.take j.toNat).drop i.toNat) (keepV ((runB (l.take i.toNat) a).1.size : Int))) else ([], false)
def impl_ChangeBetween.f (a0_0 a0_1 : ByteArray) (l0_2 : List Entry) (a1 a2 : Int) : Option (List Part × Bool) := if sizedL l0_2 = true ∧ a0_0.size ≤ maxLen then some (cbV a0_0 a0_1 l0_2 a1 a2) else none
theorem hasVersion_val (a t : ByteArray) (l : List Entry) (v : Int) (hs : sizedL l = true) (ha : a.size ≤ maxLen) : impl_hasVersion.f a t l v = some (decide (0 ≤ v ∧ v ≤ (l.length : Int)) && goodB a t l) := by
  unfold impl_hasVersion.f impl_GoodServer.f
  by_cases h1 : v ≥ 0
  · rw [if_pos h1]
    by_cases h2 : v ≤ (l.length : Int)
    · rw [if_pos h2, if_pos ⟨hs, ha⟩, decide_eq_true (show 0 ≤ v ∧ v ≤ (l.length : Int) from ⟨h1, h2⟩)]; rfl
    · rw [if_neg h2, decide_eq_false (fun h => h2 h.2)]; rfl
  · rw [if_neg h1, decide_eq_false (fun h => h1 h.1)]; rfl
theorem keepAll_val (n : Int) (h0 : 0 ≤ n) (h1 : n ≤ 300) : impl_KeepAll.f n = some (keepV n) := by
  unfold impl_KeepAll.f keepV
  rw [if_neg (by omega), if_neg (by omega), if_pos ⟨h0, h1⟩]
  have hm : makeB [(⟨n, ⟨#[]⟩, ⟨#[]⟩⟩ : Part)] = true := by
    have hz : (⟨#[]⟩ : ByteArray).size = 0 := rfl
    simp only [makeB, List.length_cons, List.length_nil, List.all_cons, List.all_nil, Bool.and_true, Bool.and_eq_true, decide_eq_true_eq, hz]
    omega
  unfold impl_normal.f
  rw [if_pos hm, Option.bind_some]
  congr 2
  unfold normL
  rw [List.foldl_cons, List.foldl_nil]
  unfold takeM keepM
  by_cases z : n = 0
  · rw [if_pos z, if_pos z]; rfl
  · rw [if_neg z, if_neg z]; rfl
theorem compV_sized (a b : List Part) : sizedP (compV a b).1 = true := by
  unfold compV
  split
  · rename_i h
    unfold compR
    cases hc : compU (unitsL a) (unitsL b) mk0 with
    | none => rfl
    | some m =>
      simp only
      split
      · rename_i hb
        refine sizedP_mk (fun q hq => ?_)
        have := (full_of_partB ((opB_of hb).2.1 q hq)).2
        unfold maxLen
        have h1 := this.2.2
        omega
      · rfl
  · rfl
theorem runB_size (l : List Entry) : ∀ a : ByteArray, a.size ≤ 300 → (runB l a).1.size ≤ 300 := by
  induction l with
  | nil => intro a h; exact h
  | cons e l ih =>
    intro a h
    have hr : runB (e :: l) a = if (applyV e.f2 a).2 = true then runB l (applyV e.f2 a).1 else (⟨#[]⟩, false) := rfl
    rw [hr]
    split
    · exact ih _ (applyV_size e.f2 a)
    · exact Nat.zero_le _
theorem keepV_sized (n : Int) : sizedP (keepV n).1 = true := by
  unfold keepV
  split
  · simp only
    split
    · rfl
    · refine sizedP_mk (fun q hq => ?_)
      simp at hq; subst hq; exact ⟨Nat.zero_le _, Nat.zero_le _⟩
  · rfl

set_option maxHeartbeats 16000000 in
set_option maxRecDepth 100000 in
theorem impl_ChangeBetween.calls (a0_0 : ByteArray) (a0_1 : ByteArray) (A0_2 : Option Addr) (c0_2 : Nat) (l0_2 : List Entry) (a1 : Int) (a2 : Int) (r1 : List Part) (r2 : Bool) (w : World) (hr0_2 : Kd.C k60 w A0_2 l0_2.length l0_2) (hc0_2 : l0_2.length ≤ c0_2) (h : impl_ChangeBetween.f a0_0 a0_1 l0_2 a1 a2 = some (r1, r2)) :
    Calls Try.prog 23 #[.agg #[.string a0_0, .string a0_1, .slice A0_2 l0_2.length c0_2], .int .i64 a1, .int .i64 a2] w fun e w' => ∃ v0_ : Value, e = .returned (.tuple #[v0_, .bool r2]) ∧ Kd.R k76 76 w' w.heap.size (fun _ => True) v0_ r1 ∧ Below w.heap.size w w' := by
  unfold impl_ChangeBetween.f at h
  by_cases hs : sizedL l0_2 = true ∧ a0_0.size ≤ maxLen
  case neg => rw [if_neg hs] at h; cases h
  rw [if_pos hs] at h
  have h0 := Option.some.inj h
  clear h
  obtain ⟨hs, ha⟩ := hs
  have HR := mz hr0_2
  have HC := mz hc0_2
  have HSZ := mz hs
  have HA := mz ha
  have hv1 := hasVersion_val a0_0 a0_1 l0_2 a1 hs ha
  have hv2 := hasVersion_val a0_0 a0_1 l0_2 a2 hs ha
  clear hr0_2 hc0_2 hs ha
  by_cases c1 : a1 > a2
  · have hv : cbV a0_0 a0_1 l0_2 a1 a2 = ([], false) := by unfold cbV; rw [if_neg (by rintro ⟨q1, q2, q3, q4⟩; omega)]
    rw [hv] at h0
    obtain ⟨rfl, rfl⟩ := Prod.mk.inj h0
    clear h0 hv
    clear hv1 hv2
    go_enter Try.func23, Try.ntmps23
    go_wp2_with ((with_reducible refine gate_dst (N := 3) rfl ?_); refine bx 3 #[.string a0_0, .string a0_1, .slice A0_2 l0_2.length c0_2] 49 ?_; intro g3 hg w1 hbox hb1; have HB1 := mz hb1; have K1 := mz hbox; obtain ⟨x0, x1, x2⟩ := cells3 hbox; clear hg hbox hb1)
    go_ret2
    exact ⟨.slice none 0 0, rfl, Kd.R_nil _ _ _ _ _, HB1.out⟩
  cases c2 : (decide (0 ≤ a1 ∧ a1 ≤ (l0_2.length : Int)) && goodB a0_0 a0_1 l0_2) with
  | false =>
    have hv : cbV a0_0 a0_1 l0_2 a1 a2 = ([], false) := by unfold cbV; rw [if_neg (by rintro ⟨q1, q2, q3, q4⟩; rw [q1, decide_eq_true (show 0 ≤ a1 ∧ a1 ≤ (l0_2.length : Int) by omega)] at c2; cases c2)]
    rw [hv] at h0
    obtain ⟨rfl, rfl⟩ := Prod.mk.inj h0
    clear h0 hv
    rw [c2] at hv1
    have HV1 := mz hv1
    clear hv1 hv2 c2
    go_enter Try.func23, Try.ntmps23
    go_wp2_with ((with_reducible refine gate_dst (N := 3) rfl ?_); refine bx 3 #[.string a0_0, .string a0_1, .slice A0_2 l0_2.length c0_2] 49 ?_; intro g3 hg w1 hbox hb1; have HB1 := mz hb1; have K1 := mz hbox; obtain ⟨x0, x1, x2⟩ := cells3 hbox; clear hg hbox hb1)
    refine (impl_hasVersion.calls a0_0 a0_1 A0_2 c0_2 l0_2 a1 false _ (Kd.C_below HR.out HB1.out) HC.out HV1.out).mono ?_
    rintro e w2 ⟨rfl, hb⟩
    have HB2 := mz (below_step HB1.out hb)
    have K2 := mz (blk_below K1.out hb)
    clear hb x0 x1 x2
    obtain ⟨x0, x1, x2⟩ := cells3 K2.out
    go_wp2_with fail
    go_ret2
    exact ⟨.slice none 0 0, rfl, Kd.R_nil _ _ _ _ _, HB2.out⟩
  | true =>
    rw [c2] at hv1
    have HV1 := mz hv1
    clear hv1
    cases c3 : (decide (0 ≤ a2 ∧ a2 ≤ (l0_2.length : Int)) && goodB a0_0 a0_1 l0_2) with
    | false =>
      have hv : cbV a0_0 a0_1 l0_2 a1 a2 = ([], false) := by unfold cbV; rw [if_neg (by rintro ⟨q1, q2, q3, q4⟩; rw [q1, decide_eq_true (show 0 ≤ a2 ∧ a2 ≤ (l0_2.length : Int) by omega)] at c3; cases c3)]
      rw [hv] at h0
      obtain ⟨rfl, rfl⟩ := Prod.mk.inj h0
      clear h0 hv
      rw [c3] at hv2
      have HV2 := mz hv2
      clear hv2 c2 c3
      go_enter Try.func23, Try.ntmps23
      go_wp2_with ((with_reducible refine gate_dst (N := 3) rfl ?_); refine bx 3 #[.string a0_0, .string a0_1, .slice A0_2 l0_2.length c0_2] 49 ?_; intro g3 hg w1 hbox hb1; have HB1 := mz hb1; have K1 := mz hbox; obtain ⟨x0, x1, x2⟩ := cells3 hbox; clear hg hbox hb1)
      refine (impl_hasVersion.calls a0_0 a0_1 A0_2 c0_2 l0_2 a1 true _ (Kd.C_below HR.out HB1.out) HC.out HV1.out).mono ?_
      rintro e w2 ⟨rfl, hb⟩
      have HB2 := mz (below_step HB1.out hb)
      have K2 := mz (blk_below K1.out hb)
      clear hb x0 x1 x2
      obtain ⟨x0, x1, x2⟩ := cells3 K2.out
      go_wp2_with fail
      refine (impl_hasVersion.calls a0_0 a0_1 A0_2 c0_2 l0_2 a2 false _ (Kd.C_below HR.out HB2.out) HC.out HV2.out).mono ?_
      rintro e w3 ⟨rfl, hb⟩
      have HB3 := mz (below_step HB2.out hb)
      have K3 := mz (blk_below K2.out hb)
      clear hb x0 x1 x2
      obtain ⟨x0, x1, x2⟩ := cells3 K3.out
      go_wp2_with fail
      go_ret2
      exact ⟨.slice none 0 0, rfl, Kd.R_nil _ _ _ _ _, HB3.out⟩
    | true =>
      rw [c3] at hv2
      have HV2 := mz hv2
      clear hv2
      simp only [Bool.and_eq_true, decide_eq_true_eq] at c2 c3
      obtain ⟨⟨d1, d2⟩, hg⟩ := c2
      obtain ⟨⟨d3, d4⟩, _⟩ := c3
      obtain ⟨n1, rfl⟩ := Int.eq_ofNat_of_zero_le d1
      obtain ⟨n2, rfl⟩ := Int.eq_ofNat_of_zero_le d3
      have hv : cbV a0_0 a0_1 l0_2 (n1 : Int) (n2 : Int) = finC (foldC ((l0_2.take n2).drop n1) (keepV ((runB (l0_2.take n1) a0_0).1.size : Int))) := by unfold cbV; rw [if_pos ⟨hg, d1, by omega, d4⟩, Int.toNat_natCast, Int.toNat_natCast]
      rw [hv] at h0
      clear hv
      have hsz := runB_size (l0_2.take n1) a0_0 (textB_size (goodB_of hg).1)
      have hka := keepAll_val ((runB (l0_2.take n1) a0_0).1.size : Int) (by omega) (by omega)
      have hks := keepV_sized ((runB (l0_2.take n1) a0_0).1.size : Int)
      generalize keepV ((runB (l0_2.take n1) a0_0).1.size : Int) = kv at h0 hka hks
      obtain ⟨k1, k2⟩ := kv
      have HKA := mz hka
      have HKS := mz hks
      have H0 := mz h0
      clear hka hks h0 hsz
      go_enter Try.func23, Try.ntmps23
      go_wp2_with ((with_reducible refine gate_dst (N := 3) rfl ?_); refine bx 3 #[.string a0_0, .string a0_1, .slice A0_2 l0_2.length c0_2] 49 ?_; intro g3 hg w1 hbox hb1; have HB1 := mz hb1; have K1 := mz hbox; obtain ⟨x0, x1, x2⟩ := cells3 hbox; clear hg hbox hb1)
      refine (impl_hasVersion.calls a0_0 a0_1 A0_2 c0_2 l0_2 (n1 : Int) true _ (Kd.C_below HR.out HB1.out) HC.out HV1.out).mono ?_
      rintro e w2 ⟨rfl, hb⟩
      have HB2 := mz (below_step HB1.out hb)
      have K2 := mz (blk_below K1.out hb)
      clear hb x0 x1 x2
      obtain ⟨x0, x1, x2⟩ := cells3 K2.out
      go_wp2_with fail
      refine (impl_hasVersion.calls a0_0 a0_1 A0_2 c0_2 l0_2 (n2 : Int) true _ (Kd.C_below HR.out HB2.out) HC.out HV2.out).mono ?_
      rintro e w3 ⟨rfl, hb⟩
      have HB3 := mz (below_step HB2.out hb)
      have K3 := mz (blk_below K2.out hb)
      clear hb x0 x1 x2
      obtain ⟨x0, x1, x2⟩ := cells3 K3.out
      go_wp2_with fail
      refine (textAt_cells g3 a0_0 A0_2 c0_2 l0_2 n1 _ x0 x2 (Kd.C_below HR.out HB3.out) HC.out (by omega) HSZ.out HA.out).mono ?_
      rintro e w4 ⟨rfl, hb⟩
      have HB4 := mz (below_step HB3.out hb)
      have K4 := mz (blk_below K3.out hb)
      clear hb x0 x1 x2
      obtain ⟨x0, x1, x2⟩ := cells3 K4.out
      go_wp2_with fail
      refine (impl_KeepAll.calls ((runB (l0_2.take n1) a0_0).1.size : Int) k1 k2 _ HKA.out).mono ?_
      rintro e w5 ⟨v5, rfl, ho, hb⟩
      have HO5 := mz (Kd.R_lower ho (below_size HB4.out))
      have HB5 := mz (below_step HB4.out hb)
      have K5 := mz (blk_below K4.out hb)
      clear hb ho x0 x1 x2
      obtain ⟨x0, x1, x2⟩ := cells3 K5.out
      obtain ⟨y, hy⟩ : ∃ y_ : List Entry, y_ = (l0_2.take n2).drop n1 := ⟨_, rfl⟩
      obtain ⟨i0, hi0, _, hsz0, _⟩ := info_parts info60
      have hcut := cut_mid (P := Try.prog) 47 60 .i64 .i64 Try.underlying47 hi0 3 hsz0 A0_2 l0_2.length c0_2 (n1 : Int) (n2 : Int) d1 (by omega) d4 HC.out
      have hr := Kd.C_mid (lo := n1) (hi := n2) (c := c0_2) HR.out (by omega) (by omega) HC.out
      have hyl : y.length = n2 - n1 := (by rw [hy, List.length_drop, List.length_take]; omega)
      rw [Int.toNat_natCast, Int.toNat_natCast] at hcut
      obtain ⟨A1, hA1⟩ : ∃ A1, A1 = (if c0_2 = n1 then A0_2 else (A0_2 : Option Addr).map (·.add (n1 * 3))) := ⟨_, rfl⟩
      obtain ⟨c1_, hc1⟩ : ∃ c1, c1 = c0_2 - n1 := ⟨_, rfl⟩
      rw [← hy] at hr
      replace hr : Kd.C k60 _ A1 y.length y := (by rw [hA1]; exact hr)
      rw [← hyl, ← hA1, ← hc1] at hcut
      have HY := mz hr
      have HYE := mz hy
      have HYL : Aside0 (y.length ≤ 9223372036854775807) := ⟨hr.2.1⟩
      rw [← hy] at H0
      clear hr hi0 hsz0 hy hA1 hc1
      go_wp2_with fail
      go_loopg [10, 11, 46] y.length (fun gg v10 v11 v46 wr => ∃ (kk : Nat) (x : List Part) (b : Bool), kk ≤ y.length ∧ y.length - kk ≤ gg ∧ v11 = .bool b ∧ v46 = .int .i64 kk ∧ Aside0 (sizedP x = true) ∧ Aside0 (Kd.R k76 76 wr w.heap.size (fun _ => True) v10 x) ∧ Aside0 (Below w.heap.size w wr) ∧ Aside0 (foldC (y.drop kk) (x, b) = foldC y (k1, k2)))
      case atStart => exact ⟨0, k1, k2, Nat.zero_le _, by omega, rfl, rfl, ⟨HKS.out⟩, ⟨HO5.out⟩, ⟨HB5.out⟩, ⟨rfl⟩⟩
      case round =>
        obtain ⟨kk, x, b, hkk, hgg, rfl, rfl, XS, XO, BW, RN⟩ := hrel
        clear x0 x1 x2
        by_cases hlt : kk < y.length
        · have hltz : (kk : Int) < (y.length : Int) := by omega
          obtain ⟨ad, A2, c2, e1, hx0, hx1, hx2, hl2, hi2⟩ := at_T60 HY.out (kk : Int) (by omega) hltz
          cases e1
          rw [rd_entry y kk hlt] at hx0 hx1 hx2 hl2 hi2
          rw [Int.toNat_natCast] at hx0 hx1 hx2
          replace hx0 := (BW.out.cell (World.block_lt_of_cell? w _ hx0)).trans hx0
          replace hx1 := (BW.out.cell (World.block_lt_of_cell? w _ hx1)).trans hx1
          replace hx2 := (BW.out.cell (World.block_lt_of_cell? w _ hx2)).trans hx2
          have hsub : ∀ z ∈ y, z ∈ l0_2 := by intro z hz; rw [HYE.out] at hz; exact List.mem_of_mem_take (List.mem_of_mem_drop hz)
          have hzs := sizedL_of HSZ.out y[kk] (hsub _ (List.getElem_mem hlt))
          clear hsub
          have RN2 := RN.out
          rw [List.drop_eq_getElem_cons hlt] at RN2
          clear RN
          generalize y[kk] = z at hx0 hx1 hx2 hl2 hi2 hzs RN2
          have HI2 := mz hi2
          have HL2 := mz hl2
          clear hi2 hl2
          obtain ⟨Ao, co, eo⟩ := Kd.R_slice XO.out
          subst eo
          cases b with
          | true =>
            have hq : foldC (z :: y.drop (kk + 1)) (x, true) = foldC (y.drop (kk + 1)) (compV x z.f2) := rfl
            rw [hq] at RN2
            clear hq
            have hco : impl_ComposeOps.f x z.f2 = some (compV x z.f2) := by unfold impl_ComposeOps.f; rw [if_pos ⟨XS.out, hzs⟩]
            have hqs := compV_sized x z.f2
            generalize compV x z.f2 = q at RN2 hco hqs
            obtain ⟨q1, q2⟩ := q
            have HCO := mz hco
            have HQS := mz hqs
            have RN := mz RN2
            clear hco hqs RN2 hzs
            go_wp2_with ((with_reducible refine gate_dst (N := 13) rfl ?_); refine bx 13 #[.int .i64 0, .int .i64 0, .slice none 0 0] 60 ?_; intro g13 hg13 w6 hbox hb6; have GE : Aside0 (w.heap.size ≤ g13) := ⟨by rw [hg13]; exact below_size BW.out⟩; have n0_ := mz (Kd.R_below XO.out hb6); have n1_ := mz (below_step BW.out hb6); clear XO BW; have XO := n0_; have BW := n1_; clear n0_ n1_; have K13 := mz hbox; obtain ⟨z0, z1, z2⟩ := cells3 hbox; have hfz0 := blk_frozen K13.out 0; have hfz1 := blk_frozen K13.out 1; have hfz2 := blk_frozen K13.out 2; clear hg13 hbox hb6)
            refine (impl_ComposeOps.calls Ao co x A2 c2 z.f2 q1 q2 _ ?s1 ?s2 ?s3 HL2.out HCO.out).mono ?_
            case s1 => exact (Kd.R_reads' (e := 76) (base := w.heap.size) (ok := fun _ => True) (n := x.length) (c := co) (by (with_reducible repeat (first | apply Kd.R_alloc | apply Kd.R_drewN | apply Kd.R_drew)); exact (Kd.R_mono (Kd.R_far (p := ⟨g13, 2, none⟩) (Kd.R_far (p := ⟨g13, 1, none⟩) (Kd.R_far (p := ⟨g13, 0, none⟩) (Kd.R_types XO.out K13.out (by decide)) (fun _ hk => hk.2) (.int .i64 z.f0)) (fun _ hk => hk.2) (.int .i64 z.f1)) (fun _ hk => hk.2) (.slice A2 z.f2.length c2)) (fun _ h_ => h_.1)))).2.2
            case s2 => exact (Kd.R_reads' XO.out).2.1
            case s3 => exact Kd.C_below HI2.out (by repeat (first | (with_reducible first | exact BW.out | apply below_alloc | apply pw_below_drewN | apply below_drew1 | refine below_set ?_ GE.out) | exact BW.out))
            rintro e w7 ⟨v7, rfl, ho, hb⟩
            have HO7 := mz (Kd.R_lower ho (below_size (by repeat (first | (with_reducible first | exact BW.out | apply below_alloc | apply pw_below_drewN | apply below_drew1 | refine below_set ?_ GE.out) | exact BW.out))))
            have HB7 := mz (below_step (by repeat (first | (with_reducible first | exact BW.out | apply below_alloc | apply pw_below_drewN | apply below_drew1 | refine below_set ?_ GE.out) | exact BW.out)) hb)
            clear hb ho
            go_wp2_with fail
            go_roundg (y.length - (kk + 1))
            case measure => omega
            case rel => have h64 := HYL.out; exact ⟨kk + 1, q1, q2, by omega, by omega, rfl, by (first | go_num | (congr 1; unfold wrap64; omega)), ⟨HQS.out⟩, ⟨HO7.out⟩, ⟨HB7.out⟩, ⟨RN.out⟩⟩
          | false =>
            have RN : Aside0 (foldC (y.drop (kk + 1)) (x, false) = foldC y (k1, k2)) := ⟨RN2⟩
            clear RN2 hzs
            go_wp2_with ((with_reducible refine gate_dst (N := 13) rfl ?_); refine bx 13 #[.int .i64 0, .int .i64 0, .slice none 0 0] 60 ?_; intro g13 hg13 w6 hbox hb6; have GE : Aside0 (w.heap.size ≤ g13) := ⟨by rw [hg13]; exact below_size BW.out⟩; have n0_ := mz (Kd.R_below XO.out hb6); have n1_ := mz (below_step BW.out hb6); clear XO BW; have XO := n0_; have BW := n1_; clear n0_ n1_; have K13 := mz hbox; obtain ⟨z0, z1, z2⟩ := cells3 hbox; have hfz0 := blk_frozen K13.out 0; have hfz1 := blk_frozen K13.out 1; have hfz2 := blk_frozen K13.out 2; clear hg13 hbox hb6)
            go_roundg (y.length - (kk + 1))
            case measure => omega
            case rel => have h64 := HYL.out; exact ⟨kk + 1, x, false, by omega, by omega, rfl, by (first | go_num | (congr 1; unfold wrap64; omega)), ⟨XS.out⟩, ⟨(by (with_reducible repeat (first | apply Kd.R_alloc | apply Kd.R_drewN | apply Kd.R_drew)); exact (Kd.R_mono (Kd.R_far (p := ⟨g13, 2, none⟩) (Kd.R_far (p := ⟨g13, 1, none⟩) (Kd.R_far (p := ⟨g13, 0, none⟩) (Kd.R_types XO.out K13.out (by decide)) (fun _ hk => hk.2) (.int .i64 z.f0)) (fun _ hk => hk.2) (.int .i64 z.f1)) (fun _ hk => hk.2) (.slice A2 z.f2.length c2)) (fun _ h_ => h_.1)))⟩, ⟨(by repeat (first | (with_reducible first | exact BW.out | apply below_alloc | apply pw_below_drewN | apply below_drew1 | refine below_set ?_ GE.out) | exact BW.out))⟩, ⟨RN.out⟩⟩
        · have hltz : ¬ (kk : Int) < (y.length : Int) := by omega
          have e : kk = y.length := by omega
          subst e
          have h3 := RN.out
          rw [List.drop_eq_nil_of_le (Nat.le_refl _)] at h3
          have h4 := H0.out
          rw [← h3] at h4
          clear H0 h3 RN
          obtain ⟨Ao, co, eo⟩ := Kd.R_slice XO.out
          subst eo
          cases b with
          | true =>
            obtain ⟨rfl, rfl⟩ := Prod.mk.inj (show (x, true) = (r1, r2) from h4)
            go_wp2
            go_ret2
            exact ⟨_, rfl, XO.out, BW.out⟩
          | false =>
            obtain ⟨rfl, rfl⟩ := Prod.mk.inj (show (([] : List Part), false) = (r1, r2) from h4)
            go_wp2
            go_ret2
            exact ⟨.slice none 0 0, rfl, Kd.R_nil _ _ _ _ _, BW.out⟩
set_option maxHeartbeats 4000000 in
theorem rs_done (g : Nat) (A : Option Addr) (c : Nat) (l : List Part) (w : World) (h : IsRd 144 w g A c l) :
    Calls Try.prog 117 #[.pointer (some ⟨g, 0, none⟩)] w fun e w' => e = .returned (.bool ((l.length : Int) == 0)) ∧ Below w.heap.size w w' := by
  have c0 := rd_cell h
  clear h
  go_enter Try.func117, Try.ntmps117
  go_wp2_with fail
  go_ret
  exact ⟨rfl, Below.refl _ _⟩
set_option maxHeartbeats 4000000 in
theorem rs_size (g : Nat) (A : Option Addr) (c : Nat) (p : Part) (xs : List Part) (w : World) (h : IsRd 144 w g A c (p :: xs)) (hs : smallQ 1000000 p) :
    Calls Try.prog 119 #[.pointer (some ⟨g, 0, none⟩)] w fun e w' => e = .returned (.int .i64 (sizeP p : Int)) ∧ Below w.heap.size w w' := by
  have c0 := rd_cell h
  obtain ⟨ad, rfl, y0, y1, y2⟩ := rd_first h.row
  simp only [List.length_cons] at c0
  obtain ⟨s0, s1, s2, s3⟩ := hs
  have e : (sizeP p : Int) = p.f0 + (p.f1.size : Int) + (p.f2.size : Int) := by unfold sizeP; push_cast; omega
  have HE := mz e
  have hw1 : IntKind.i64.wrap (p.f0 + (p.f1.size : Int)) = p.f0 + (p.f1.size : Int) := by rw [i64_w, w64 (by omega) (by omega)]
  have hw2 : IntKind.i64.wrap (p.f0 + (p.f1.size : Int) + (p.f2.size : Int)) = p.f0 + (p.f1.size : Int) + (p.f2.size : Int) := by rw [i64_w, w64 (by omega) (by omega)]
  clear h e
  go_enter Try.func119, Try.ntmps119
  go_wp2_with fail
  have F : ∀ W' : World, W' = w.drew → W'.cell? ⟨g, 0, none⟩ = some (.slice (some ad) (xs.length + 1) c) ∧ W'.cell? ad = some (.int .i64 p.f0) ∧ W'.cell? ⟨ad.block, ad.off + 1, none⟩ = some (.string p.f1) ∧ W'.cell? ⟨ad.block, ad.off + 2, none⟩ = some (.string p.f2) := fun W' hb => by subst hb; exact ⟨c0, y0, y1, y2⟩
  refine wp_region_held_drew (S := fun W' => W' = w.drew) (by kernel_rfl) rfl (fun hH => ?_)
  refine' tF 0 F ?_
  refine' tF 1 F ?_
  refine' tF 2 F ?_
  refine' tF 3 F ?_
  refine' tF 4 F ?_
  refine' tF 5 F ?_
  refine' tF 6 F ?_
  refine' tF 7 F ?_
  refine' tF 8 F ?_
  refine' tF 9 F ?_
  refine' tF 10 F ?_
  refine' tF 11 F ?_
  refine' tF 12 F ?_
  refine' tF 13 F ?_
  refine' tF 14 F ?_
  refine' tF 15 F ?_
  refine' tF 16 F ?_
  refine' tF 17 F ?_
  refine' tF 18 F ?_
  refine' tF 19 F ?_
  refine' tF 20 F ?_
  refine' tF 21 F ?_
  refine' tF 22 F ?_
  refine' tF 23 F ?_
  refine' tF 24 F ?_
  refine' tF 25 F ?_
  refine wpAnyH_done (by kernel_rfl) ?_ _
  go_wp2_with fail
  go_ret
  exact ⟨by rw [HE.out]; rfl, below_drew (Below.refl _ _)⟩
theorem rs_app {w5 w6 : World} {base : Nat} {v6 : Value} {p : Part} {xs : List Part} (hb : base ≤ w5.heap.size) (ho : w6.ownsRow base 76 3 v6 (0 + (xs.length + 1)) ([] ++ (p :: xs).flatMap cellsP)) (hg : (w5.alloc (.cells #[] 76)).grownBy w6 (Value.slice (some ⟨w5.heap.size, 0, none⟩) 0 0).ownBlock)
    (hat : v6.ownBlock = (Value.slice (some ⟨w5.heap.size, 0, none⟩) 0 0).ownBlock ∨ v6.ownBlock = some (w5.alloc (.cells #[] 76)).heap.size) : Below w5.heap.size w5 w6 ∧ OwnP base w6 v6 (p :: xs) ∧ ∀ k, v6.ownBlock = some k → w5.heap.size ≤ k := by
  refine ⟨(below_alloc (Below.refl w5.heap.size w5) _).grown hg (by simp) (fun k hk => by have : w5.heap.size = k := Option.some.inj hk; omega), ?_, fun k hk => ?_⟩
  · unfold OwnP; rw [Nat.zero_add, List.nil_append] at ho; exact ho
  · rcases hat with e | e
    · rw [e] at hk; have : w5.heap.size = k := Option.some.inj hk; omega
    · rw [e] at hk; injection hk with hk; rw [← hk]; simp
theorem rs_fin {t : TypeId} {w w8 : World} {base g gr : Nat} {A : Option Addr} {v6 u : Value} {l : List Part} (hB : Below w.heap.size w w8) (hs : base ≤ w.heap.size) (hg : base ≤ g) (hblk : w8.heap[g]? = some (.cells #[u] t (0, 0))) (hO : OwnP base w8 v6 l) (hgr : v6.ownBlock = some gr) (hge : w.heap.size ≤ gr) (hgl : g < w.heap.size) :
    ∃ A' c', IsRd t (w8.setCell ⟨g, 0, none⟩ v6) g A' c' l ∧ RStep base g A A' w (w8.setCell ⟨g, 0, none⟩ v6) ∧ ∀ a, A' = some a → a.block = gr := by
  have hR := R_of_flat (l := l) hO
  obtain ⟨A', c', rfl, hc, hC⟩ := Kd.R_reads hR
  have hb : ∀ a, A' = some a → a.block = gr := fun a e => by subst e; injection hgr
  refine ⟨A', c', ⟨blk_put hblk 0 _ rfl, C_move hC (fun a e => Below.heap_setCell _ _ _ _ (by have := hb a e; show a.block ≠ g; omega)), hc⟩, ⟨(hB.mono hs).setCell hg _, Kept.setCell (S := fun k => k = g) (p := ⟨g, 0, none⟩) (Kept.of_below hB _) (.inl rfl) _, fun a e => .inr (by rw [hb a e]; exact hge)⟩, hb⟩
theorem row_none (W : World) (base : Nat) (hb : base ≤ W.heap.size) : (W.alloc (.cells #[] 76)).ownsRow base 76 3 (.slice (some ⟨W.heap.size, 0, none⟩) 0 0) 0 [] := by
  have h2 := World.ownsRow_lit (base := base) (e := 76) (size := 3) W #[] 0 hb (by unfold maxLen; omega) (by rfl)
  simpa using h2
theorem first_full {p : Part} (hp : fullP p) : firstP p (sizeP p) = p ∧ ∀ xs, cutL p xs (sizeP p) = xs := by
  obtain ⟨hp, hs⟩ := hp
  by_cases a : 0 < p.f0
  · have e := pure_keep hp a
    have hz : sizeP p = p.f0.toNat := by rw [e]; simp [sizeP, noB_size]
    have h0 : ((p.f0.toNat : Nat) : Int) = p.f0 := Int.toNat_of_nonneg (by omega)
    have e1 : p.f1 = noB := by rw [e]
    have e2 : p.f2 = noB := by rw [e]
    refine ⟨by rw [first_keep a hp, hz, h0]; exact e.symm, fun xs => ?_⟩
    unfold cutL
    rw [if_pos (by unfold restQ zeroP; rw [if_pos a, hz, h0]; simp [e1, e2, noB_size])]
  · have z : p.f0 = 0 := by have := hp.1; omega
    by_cases b : p.f1.size = 0
    · have c : p.f2.size ≠ 0 := by simp only [sizeP] at hs; omega
      have e := pure_drop hp c
      have hz : sizeP p = p.f2.size := by simp only [sizeP, z, b]; simp
      refine ⟨by rw [first_drop hp c, hz]; rw [show p.f2.extract 0 p.f2.size = p.f2 from bd_ext (by simp)]; exact e.symm, fun xs => ?_⟩
      unfold cutL
      rw [if_pos (by unfold restQ zeroP; rw [if_neg a, if_neg (fun h => h b), hz]; simp [z, b])]
    · have e := pure_put hp b
      have y := hp.2.2 b
      have hz : sizeP p = p.f1.size := by simp only [sizeP, z, y]; simp
      refine ⟨by rw [first_put hp b, hz]; rw [show p.f1.extract 0 p.f1.size = p.f1 from bd_ext (by simp)]; exact e.symm, fun xs => ?_⟩
      unfold cutL
      rw [if_pos (by unfold restQ zeroP; rw [if_neg a, if_pos b, hz]; simp [z, y])]
theorem cut_left {p : Part} {xs : List Part} {n : Nat} (hp : fullP p) (hn : n < sizeP p) : cutL p xs n = restQ p n :: xs := by
  have hl := cutL_len (xs := xs) n hp (by omega)
  unfold cutL at hl ⊢
  cases z : zeroP (restQ p n) with
  | false => rfl
  | true => rw [z, if_pos rfl, unitsL_len_cons] at hl; omega
set_option maxHeartbeats 8000000 in
set_option maxRecDepth 100000 in
theorem rs_take (base g : Nat) (A : Option Addr) (c : Nat) (p : Part) (xs : List Part) (w : World) (h : IsRd 144 w g A c (p :: xs)) (hg : base ≤ g) (n : Nat) (hn : n ≤ sizeP p) (hp : okP p) (hx : xs.length ≤ 100000) :
    Calls Try.prog 118 #[.pointer (some ⟨g, 0, none⟩), .int .i64 n] w fun e w' => e = .returned (partV (firstP p n)) ∧ RdPost 144 base g A (cutL p xs n) w w' := by
  have hR0 := h.row
  obtain ⟨ad, rfl, q0, q1, q2⟩ := rd_first hR0
  have c0 := rd_cell h
  simp only [List.length_cons] at c0
  have HR := mz h
  have HGB := mz hg
  have HS : Aside0 (base ≤ w.heap.size) := ⟨by have := blk_lt h.blk; omega⟩
  have HP := mz hp
  have HPL : sizeP p ≤ 300 := hp.le
  clear h hg hR0
  go_enter Try.func118, Try.ntmps118
  go_upto_region 2 with (first | ((with_reducible refine gate_dst (N := 4) rfl ?_); refine bx 4 #[.int .i64 0, .string ⟨#[]⟩, .string ⟨#[]⟩] 76 ?_; intro g4 hg w1 hbox hb; have HGg4 := mz hg; have Bw1 := mz hb; have Kg4 := mz hbox; obtain ⟨x0, x1, x2⟩ := cells3 hbox; obtain ⟨xf0, xf1, xf2⟩ := froz3 hbox; have c0_ := cell_step c0 hb; have q0_ := cell_step q0 hb; have q1_ := cell_step q1 hb; have q2_ := cell_step q2 hb; clear c0 q0 q1 q2; have c0 := c0_; have q0 := q0_; have q1 := q1_; have q2 := q2_; clear c0_ q0_ q1_ q2_ hg hb hbox) | ((with_reducible refine gate_dst (N := 5) rfl ?_); refine bx 5 #[.int .i64 0, .string ⟨#[]⟩, .string ⟨#[]⟩] 76 ?_; intro g5 hg w2 hbox hb; have HGg5 := mz hg; have Bw2 := mz hb; have Kg5 := mz hbox; obtain ⟨y0, y1, y2⟩ := cells3 hbox; obtain ⟨yf0, yf1, yf2⟩ := froz3 hbox; have c0_ := cell_step c0 hb; have q0_ := cell_step q0 hb; have q1_ := cell_step q1 hb; have q2_ := cell_step q2 hb; clear c0 q0 q1 q2; have c0 := c0_; have q0 := q0_; have q1 := q1_; have q2 := q2_; clear c0_ q0_ q1_ q2_ hg hb hbox))
  have K4a := mz (blk_below Kg4.out Bw2.out)
  have G45 : Aside0 (g4 < g5) := ⟨by have h1 := blk_lt Kg4.out; have := HGg5.out; omega⟩
  have M5 := mz (fillP Kg5.out rfl p.f0 p.f1 p.f2)
  have M4 := mz (farP K4a.out (show g4 ≠ g5 by have := G45.out; omega) (.int .i64 p.f0) (.string p.f1) (.string p.f2))
  have B4 := mz (belowP (Bw1.out.trans (Bw2.out.mono Bw1.out.size)) (show w.heap.size ≤ g5 by have h1 := HGg5.out; have h2 := Bw1.out.size; omega) (.int .i64 p.f0) (.string p.f1) (.string p.f2))
  clear x0 x1 x2 xf0 xf1 xf2 y0 y1 y2 yf0 yf1 yf2 c0 q0 q1 q2
  generalize (((w2.setCell ⟨g5, 0, none⟩ (.int .i64 p.f0)).setCell ⟨g5, 1, none⟩ (.string p.f1)).setCell ⟨g5, 2, none⟩ (.string p.f2)) = w4 at M5 M4 B4 ⊢
  have HG4 := HGg4
  have HG5 : Aside0 (w.heap.size ≤ g5) := ⟨by have h1 := HGg5.out; have h2 := Bw1.out.size; omega⟩
  clear Kg4 Kg5 K4a Bw1 Bw2 HGg4 HGg5
  go_wp2_with fail
  refine (rs_size g (some ad) c p xs w4 (HR.out.below B4.out) (HP.out.2.mono (by omega))).mono ?_
  rintro e w5 ⟨rfl, hb⟩
  have B5 := mz (below_step B4.out hb)
  have N5 := mz (blk_below M5.out hb)
  have N4 := mz (blk_below M4.out hb)
  have HR5 := mz (HR.out.below (below_step B4.out hb))
  clear hb M5 M4 B4
  have c0 : w5.cell? ⟨g, 0, none⟩ = some (.slice (some ad) (xs.length + 1) c) := rd_cell HR5.out
  have fz := blk_frozen HR5.out.blk 0
  have hcap := HR5.out.cap
  simp only [List.length_cons] at hcap
  by_cases he : n = sizeP p
  · have hF := first_full HP.out.1
    rw [← he] at hF
    have HF := mz hF.1
    have HCU := mz (hF.2 xs)
    have heq : ((n : Int) == (sizeP p : Int)) = true := by rw [he]; simp
    have heq2 : (n : Int) = (sizeP p : Int) := by rw [he]
    clear hF he
    go_upto_region 3 with fail
    obtain ⟨A', c', hA', hc', hR9, hS9⟩ := rd_adv HR5.out base HGB.out
    have ne4 : g4 ≠ g := fun e => by have := blk_lt HR.out.blk; have := HG4.out; omega
    have ne5 : g5 ≠ g := fun e => by have := blk_lt HR.out.blk; have := HG5.out; omega
    have M4 := mz (blk_far (p := ⟨g, 0, none⟩) N4.out ne4 (.slice (if c = 1 then some ad else (some ad).map (·.add 3)) xs.length (c - 1)))
    have M5 := mz (blk_far (p := ⟨g, 0, none⟩) N5.out ne5 (.slice (if c = 1 then some ad else (some ad).map (·.add 3)) xs.length (c - 1)))
    have HR9 := mz hR9
    have HS9 := mz ((RStep.of_below (g := g) (A := some ad) B5.out HS.out).trans hS9)
    have HNA : Aside0 (∀ a, A' = some a → a.block ≠ g4) := ⟨fun a e => by rw [hA'] at e; obtain ⟨b, hb2, e2⟩ := (rd_rest HR.out).2.2 a e; obtain ⟨b', hb3, hlt⟩ := C_addr HR.out.row (by simp); rw [hb2] at hb3; injection hb3 with hb3; subst hb3; rw [e2]; have := HG4.out; omega⟩
    clear hA' hc' hR9 hS9
    obtain ⟨Av, hAv⟩ : ∃ Av, (if c = 1 then some ad else (some ad).map (·.add 3)) = Av := ⟨_, rfl⟩
    rw [hAv] at M4 M5 HR9 HS9
    have HAV := mz hAv
    clear hAv
    go_upto_region 4 with fail
    have HE : (if c = 1 then some ad else some (⟨ad.block, ad.off + 3, none⟩ : Addr)) = Av := (show_add c (some ad)).trans HAV.out
    rw [HE]
    clear HE
    generalize w5.setCell ⟨g, 0, none⟩ (.slice Av xs.length (c - 1)) = w9 at M4 M5 HR9 HS9 ⊢
    clear c0 fz
    obtain ⟨u0, u1, u2⟩ := cells3 M5.out
    obtain ⟨t0, t1, t2⟩ := cells3 M4.out
    obtain ⟨t3, t4, t5⟩ := froz3 M4.out
    go_wp2_with fail
    have hfin := fillP M4.out rfl (p.f0) (p.f1) (p.f2)
    refine bodyPost_ret (results_cell_row rfl _ _ g4 76 #[.int .i64 (p.f0), .string (p.f1), .string (p.f2)] (0, 0) _ rfl hfin Try.underlying76 rfl (by kernel_rfl)) rfl ?_
    rw [HCU.out]
    refine ⟨by rw [HF.out]; rfl, _, _, rd_tail (A := some ad) (w := w) HR9.out HS9.out HS.out (blk_lt HR.out.blk) M4.out HG4.out (fun a e => HNA.out a e) _ _ _⟩
  have hlt : n < sizeP p := by omega
  have HCU := mz (cut_left (xs := xs) HP.out.1 hlt)
  have hne1 : ((n : Int) == (sizeP p : Int)) = false := by simp; omega
  have hne2 : ¬ (n : Int) = (sizeP p : Int) := by omega
  have HLT := mz hlt
  clear he hlt
  obtain ⟨i0, hi, hz0, hz1, hz2⟩ := info_parts info76
  have HI := mz hi
  have HZ0 := mz hz0
  have HZ1 := mz hz1
  have HZ2 := mz hz2
  clear hi hz0 hz1 hz2
  have hbs5 : base ≤ w5.heap.size := Nat.le_trans HS.out B5.out.size
  have hCr := clone_cells HR5.out.row
  have HCR := mz hCr
  clear hCr
  have cA : (w5.alloc (.cells #[] 76)).cell? ⟨g, 0, none⟩ = some (.slice (some ad) (xs.length + 1) c) := Lib.cell?_alloc_some _ c0
  go_upto_region 8 with (at_builtin; refine wpList_append_own_at _ rfl (.tmp 26) (.tmp 30) 34 rfl base 76 i0 (.agg #[.int .i64 0, .string ⟨#[]⟩, .string ⟨#[]⟩]) 3 40 Try.underlying34 HI.out HZ0.out HZ1.out HZ2.out rfl (by decide) (.slice (some ⟨w5.heap.size, 0, none⟩) 0 0) 0 [] (by rfl) (row_none w5 base hbs5) ad (xs.length + 1) c ((p :: xs).flatMap cellsP) (by rfl) (by rw [flat_length cellsP 3 cellsP_len]; rfl) (fun j u hj => Lib.cell?_alloc_some _ (HCR.out j u hj)) (cells_one (p :: xs)) (by unfold maxLen; omega) (by omega) (Nat.le_trans hbs5 (by simp)) ?_; intro v6 w6 ho hgr _ hat; have HO := mz ho; have HGRW := mz hgr; have HAT := mz hat; clear ho hgr hat)
  obtain ⟨b56, o6, hk6⟩ := rs_app hbs5 HO.out HGRW.out HAT.out
  obtain ⟨gr, cap, hv6, hgrl, r0, r1, r2, rf⟩ := row_at o6 0 (by simp)
  simp only [Nat.zero_mul, Nat.zero_add, List.getElem_cons_zero] at r0 r1 r2
  have hgr5 : w5.heap.size ≤ gr := hk6 gr (by rw [hv6]; rfl)
  have HV6 := mz hv6
  subst hv6
  have B6 := mz (below_step B5.out b56)
  have P5 := mz (blk_below N5.out b56)
  have P4 := mz (blk_below N4.out b56)
  have PG := mz (blk_below HR5.out.blk b56)
  have O6 := mz o6
  have RF := mz rf
  have GR5 := mz hgr5
  have hn5 : g5 ≠ gr := fun e => by have := blk_lt N5.out; omega
  have hn5' := Ne.symm hn5
  have HGE : Aside0 (w.heap.size ≤ gr) := ⟨Nat.le_trans B5.out.size hgr5⟩
  have NG4 : Aside0 (g4 ≠ gr ∧ g4 ≠ g5 ∧ g ≠ gr ∧ g ≠ g5 ∧ g4 ≠ g ∧ g5 ≠ g) := ⟨by have h1 := blk_lt N4.out; have h2 := G45.out; have h3 := blk_lt HR.out.blk; have h4 := HG4.out; have h5 := HG5.out; have h6 := B5.out.size; omega⟩
  clear c0 cA fz HO HGRW HAT HCR b56 o6 hk6 rf hgr5 hgrl hbs5 N5 N4
  obtain ⟨y0, y1, y2⟩ := cells3 P5.out
  obtain ⟨z0, z1, z2⟩ := froz3 P5.out
  have f0 := RF.out 0
  have f1 := RF.out 1
  have f2 := RF.out 2
  have hpu := HP.out.1.1
  have hlt := HLT.out
  by_cases hk : 0 < p.f0
  · have hkn : (n : Int) ≤ p.f0 := by have e := pure_keep hpu hk; rw [e] at hlt; simp [sizeP, noB_size] at hlt; omega
    have hwr : IntKind.i64.wrap (p.f0 - (n : Int)) = p.f0 - (n : Int) := by have := HP.out.2.2.1; rw [i64_w, w64 (by omega) (by omega)]
    have HF : Aside0 (firstP p n = ⟨n, p.f1, p.f2⟩) := ⟨by simp only [firstP, if_pos hk]⟩
    have hQ : restQ p n = ⟨p.f0 - n, p.f1, p.f2⟩ := by simp only [restQ, if_pos hk]
    have HCU0 := HCU.out
    rw [hQ] at HCU0
    clear HCU
    have HCU := mz HCU0
    clear hQ HCU0 hpu hlt
    go_upto_region 14 with fail
    have ap := row_put O6.out 0 (by simp) 0 (by omega) (.int .i64 (p.f0 - (n : Int))) (⟨p.f0 - (n : Int), p.f1, p.f2⟩ : Part) (by simp [cellsP])
    simp only [Nat.zero_mul, Nat.zero_add, List.set_cons_zero] at ap
    have O8 : Aside0 (OwnP base ((w6.setCell ⟨gr, 0, none⟩ (.int .i64 (p.f0 - (n : Int)))).setCell ⟨g5, 0, none⟩ (.int .i64 (n : Int))) (.slice (some ⟨gr, 0, none⟩) (xs.length + 1) cap) ((⟨p.f0 - (n : Int), p.f1, p.f2⟩ : Part) :: xs)) := ⟨own_setCell ap.1 (fun e => hn5 (Option.some.inj e)) _⟩
    have Q5 := mz (blk_put (cs' := #[.int .i64 ((n : Int)), .string (p.f1), .string (p.f2)]) (blk_far (p := ⟨gr, 0, none⟩) P5.out hn5 (.int .i64 (p.f0 - (n : Int)))) 0 (.int .i64 (n : Int)) rfl)
    have Q4 := mz (blk_far (p := ⟨g5, 0, none⟩) (blk_far (p := ⟨gr, 0, none⟩) P4.out NG4.out.1 (.int .i64 (p.f0 - (n : Int)))) NG4.out.2.1 (.int .i64 (n : Int)))
    have QG := mz (blk_far (p := ⟨g5, 0, none⟩) (blk_far (p := ⟨gr, 0, none⟩) PG.out NG4.out.2.2.1 (.int .i64 (p.f0 - (n : Int)))) NG4.out.2.2.2.1 (.int .i64 (n : Int)))
    have B8 := mz (below_set (j := 0) (v := .int .i64 (n : Int)) (below_set (j := 0) (v := .int .i64 (p.f0 - (n : Int))) B6.out HGE.out) HG5.out)
    clear ap y0 y1 y2 z0 z1 z2 f0 f1 f2 r0 r1 r2 hn5 hn5'
    generalize (w6.setCell ⟨gr, 0, none⟩ (.int .i64 (p.f0 - (n : Int)))).setCell ⟨g5, 0, none⟩ (.int .i64 (n : Int)) = w8 at O8 Q5 Q4 QG B8 ⊢
    obtain ⟨A', c', hR9, hS9, hA9⟩ := rs_fin (A := some ad) B8.out HS.out HGB.out QG.out O8.out rfl HGE.out (blk_lt HR.out.blk)
    have M4 := mz (blk_far (p := ⟨g, 0, none⟩) Q4.out NG4.out.2.2.2.2.1 (.slice (some ⟨gr, 0, none⟩) (xs.length + 1) cap))
    have M5 := mz (blk_far (p := ⟨g, 0, none⟩) Q5.out NG4.out.2.2.2.2.2 (.slice (some ⟨gr, 0, none⟩) (xs.length + 1) cap))
    have HR9 := mz hR9
    have HS9 := mz hS9
    have HNA : Aside0 (∀ a, A' = some a → a.block ≠ g4) := ⟨fun a e => by rw [hA9 a e]; exact Ne.symm NG4.out.1⟩
    clear hR9 hS9 hA9
    have cg := (blk_cell QG.out 0).trans rfl
    have fg := blk_frozen QG.out 0
    go_upto_region 15 with fail
    generalize w8.setCell ⟨g, 0, none⟩ (.slice (some ⟨gr, 0, none⟩) (xs.length + 1) cap) = w9 at M4 M5 HR9 HS9 ⊢
    clear cg fg
    obtain ⟨u0, u1, u2⟩ := cells3 M5.out
    obtain ⟨t0, t1, t2⟩ := cells3 M4.out
    obtain ⟨t3, t4, t5⟩ := froz3 M4.out
    go_wp2_with fail
    have hfin := fillP M4.out rfl ((n : Int)) (p.f1) (p.f2)
    refine bodyPost_ret (results_cell_row rfl _ _ g4 76 #[.int .i64 ((n : Int)), .string (p.f1), .string (p.f2)] (0, 0) _ rfl hfin Try.underlying76 rfl (by kernel_rfl)) rfl ?_
    rw [HCU.out]
    refine ⟨by rw [HF.out]; rfl, _, _, rd_tail (A := some ad) (w := w) HR9.out HS9.out HS.out (blk_lt HR.out.blk) M4.out HG4.out (fun a e => HNA.out a e) _ _ _⟩
  have hk0 : p.f0 = 0 := by have := hpu.1; omega
  by_cases hp1 : p.f1.size = 0
  · have l_pf1 : p.f1.toList = [] := (toList_nil _).2 hp1
    have e_pf1 : p.f1.toList.isEmpty = true := by rw [l_pf1]; rfl
    have hne9 : ¬ p.f1.size ≠ 0 := fun h => h hp1
    have hnn : (n : Int) ≤ (p.f2.size : Int) := by simp only [sizeP, hk0, hp1] at hlt; simp at hlt; omega
    have hn2 : n ≤ p.f2.size := by omega
    have HF : Aside0 (firstP p n = ⟨p.f0, p.f1, p.f2.extract 0 n⟩) := ⟨by simp only [firstP, if_neg hk, if_neg hne9]⟩
    have hQ : restQ p n = ⟨p.f0, p.f1, p.f2.extract n p.f2.size⟩ := by simp only [restQ, if_neg hk, if_neg hne9]
    have HCU0 := HCU.out
    rw [hQ] at HCU0
    clear HCU
    have HCU := mz HCU0
    clear hQ HCU0 hpu hlt hk0 hp1 hne9
    go_upto_region 14 with fail
    have ap := row_put O6.out 0 (by simp) 2 (by omega) (.string (p.f2.extract n p.f2.size)) (⟨p.f0, p.f1, p.f2.extract n p.f2.size⟩ : Part) (by simp [cellsP])
    simp only [Nat.zero_mul, Nat.zero_add, List.set_cons_zero] at ap
    have O8 : Aside0 (OwnP base ((w6.setCell ⟨gr, 2, none⟩ (.string (p.f2.extract n p.f2.size))).setCell ⟨g5, 2, none⟩ (.string (p.f2.extract 0 n))) (.slice (some ⟨gr, 0, none⟩) (xs.length + 1) cap) ((⟨p.f0, p.f1, p.f2.extract n p.f2.size⟩ : Part) :: xs)) := ⟨own_setCell ap.1 (fun e => hn5 (Option.some.inj e)) _⟩
    have Q5 := mz (blk_put (cs' := #[.int .i64 (p.f0), .string (p.f1), .string (p.f2.extract 0 n)]) (blk_far (p := ⟨gr, 2, none⟩) P5.out hn5 (.string (p.f2.extract n p.f2.size))) 2 (.string (p.f2.extract 0 n)) rfl)
    have Q4 := mz (blk_far (p := ⟨g5, 2, none⟩) (blk_far (p := ⟨gr, 2, none⟩) P4.out NG4.out.1 (.string (p.f2.extract n p.f2.size))) NG4.out.2.1 (.string (p.f2.extract 0 n)))
    have QG := mz (blk_far (p := ⟨g5, 2, none⟩) (blk_far (p := ⟨gr, 2, none⟩) PG.out NG4.out.2.2.1 (.string (p.f2.extract n p.f2.size))) NG4.out.2.2.2.1 (.string (p.f2.extract 0 n)))
    have B8 := mz (below_set (j := 2) (v := .string (p.f2.extract 0 n)) (below_set (j := 2) (v := .string (p.f2.extract n p.f2.size)) B6.out HGE.out) HG5.out)
    clear ap y0 y1 y2 z0 z1 z2 f0 f1 f2 r0 r1 r2 hn5 hn5'
    generalize (w6.setCell ⟨gr, 2, none⟩ (.string (p.f2.extract n p.f2.size))).setCell ⟨g5, 2, none⟩ (.string (p.f2.extract 0 n)) = w8 at O8 Q5 Q4 QG B8 ⊢
    obtain ⟨A', c', hR9, hS9, hA9⟩ := rs_fin (A := some ad) B8.out HS.out HGB.out QG.out O8.out rfl HGE.out (blk_lt HR.out.blk)
    have M4 := mz (blk_far (p := ⟨g, 0, none⟩) Q4.out NG4.out.2.2.2.2.1 (.slice (some ⟨gr, 0, none⟩) (xs.length + 1) cap))
    have M5 := mz (blk_far (p := ⟨g, 0, none⟩) Q5.out NG4.out.2.2.2.2.2 (.slice (some ⟨gr, 0, none⟩) (xs.length + 1) cap))
    have HR9 := mz hR9
    have HS9 := mz hS9
    have HNA : Aside0 (∀ a, A' = some a → a.block ≠ g4) := ⟨fun a e => by rw [hA9 a e]; exact Ne.symm NG4.out.1⟩
    clear hR9 hS9 hA9
    have cg := (blk_cell QG.out 0).trans rfl
    have fg := blk_frozen QG.out 0
    go_upto_region 15 with fail
    generalize w8.setCell ⟨g, 0, none⟩ (.slice (some ⟨gr, 0, none⟩) (xs.length + 1) cap) = w9 at M4 M5 HR9 HS9 ⊢
    clear cg fg
    obtain ⟨u0, u1, u2⟩ := cells3 M5.out
    obtain ⟨t0, t1, t2⟩ := cells3 M4.out
    obtain ⟨t3, t4, t5⟩ := froz3 M4.out
    go_wp2_with fail
    have hfin := fillP M4.out rfl (p.f0) (p.f1) (p.f2.extract 0 n)
    refine bodyPost_ret (results_cell_row rfl _ _ g4 76 #[.int .i64 (p.f0), .string (p.f1), .string (p.f2.extract 0 n)] (0, 0) _ rfl hfin Try.underlying76 rfl (by kernel_rfl)) rfl ?_
    rw [HCU.out]
    refine ⟨by rw [HF.out]; rfl, _, _, rd_tail (A := some ad) (w := w) HR9.out HS9.out HS.out (blk_lt HR.out.blk) M4.out HG4.out (fun a e => HNA.out a e) _ _ _⟩
  have l_pf1 : ¬ (p.f1.toList = []) := fun e => hp1 ((toList_nil _).1 e)
  have e_pf1 : p.f1.toList.isEmpty = false := by cases hh : p.f1.toList with | nil => exact absurd hh l_pf1 | cons _ _ => rfl
  have y9 := hpu.2.2 hp1
  have hpp : p.f1.size ≠ 0 := hp1
  have hnn : (n : Int) ≤ (p.f1.size : Int) := by simp only [sizeP, hk0, y9] at hlt; simp at hlt; omega
  have hn2 : n ≤ p.f1.size := by omega
  have HF : Aside0 (firstP p n = ⟨p.f0, p.f1.extract 0 n, p.f2⟩) := ⟨by simp only [firstP, if_neg hk, if_pos hpp]⟩
  have hQ : restQ p n = ⟨p.f0, p.f1.extract n p.f1.size, p.f2⟩ := by simp only [restQ, if_neg hk, if_pos hpp]
  have HCU0 := HCU.out
  rw [hQ] at HCU0
  clear HCU
  have HCU := mz HCU0
  clear hQ HCU0 hpu hlt hk0 hp1 y9
  go_upto_region 14 with fail
  have ap := row_put O6.out 0 (by simp) 1 (by omega) (.string (p.f1.extract n p.f1.size)) (⟨p.f0, p.f1.extract n p.f1.size, p.f2⟩ : Part) (by simp [cellsP])
  simp only [Nat.zero_mul, Nat.zero_add, List.set_cons_zero] at ap
  have O8 : Aside0 (OwnP base ((w6.setCell ⟨gr, 1, none⟩ (.string (p.f1.extract n p.f1.size))).setCell ⟨g5, 1, none⟩ (.string (p.f1.extract 0 n))) (.slice (some ⟨gr, 0, none⟩) (xs.length + 1) cap) ((⟨p.f0, p.f1.extract n p.f1.size, p.f2⟩ : Part) :: xs)) := ⟨own_setCell ap.1 (fun e => hn5 (Option.some.inj e)) _⟩
  have Q5 := mz (blk_put (cs' := #[.int .i64 (p.f0), .string (p.f1.extract 0 n), .string (p.f2)]) (blk_far (p := ⟨gr, 1, none⟩) P5.out hn5 (.string (p.f1.extract n p.f1.size))) 1 (.string (p.f1.extract 0 n)) rfl)
  have Q4 := mz (blk_far (p := ⟨g5, 1, none⟩) (blk_far (p := ⟨gr, 1, none⟩) P4.out NG4.out.1 (.string (p.f1.extract n p.f1.size))) NG4.out.2.1 (.string (p.f1.extract 0 n)))
  have QG := mz (blk_far (p := ⟨g5, 1, none⟩) (blk_far (p := ⟨gr, 1, none⟩) PG.out NG4.out.2.2.1 (.string (p.f1.extract n p.f1.size))) NG4.out.2.2.2.1 (.string (p.f1.extract 0 n)))
  have B8 := mz (below_set (j := 1) (v := .string (p.f1.extract 0 n)) (below_set (j := 1) (v := .string (p.f1.extract n p.f1.size)) B6.out HGE.out) HG5.out)
  clear ap y0 y1 y2 z0 z1 z2 f0 f1 f2 r0 r1 r2 hn5 hn5'
  generalize (w6.setCell ⟨gr, 1, none⟩ (.string (p.f1.extract n p.f1.size))).setCell ⟨g5, 1, none⟩ (.string (p.f1.extract 0 n)) = w8 at O8 Q5 Q4 QG B8 ⊢
  obtain ⟨A', c', hR9, hS9, hA9⟩ := rs_fin (A := some ad) B8.out HS.out HGB.out QG.out O8.out rfl HGE.out (blk_lt HR.out.blk)
  have M4 := mz (blk_far (p := ⟨g, 0, none⟩) Q4.out NG4.out.2.2.2.2.1 (.slice (some ⟨gr, 0, none⟩) (xs.length + 1) cap))
  have M5 := mz (blk_far (p := ⟨g, 0, none⟩) Q5.out NG4.out.2.2.2.2.2 (.slice (some ⟨gr, 0, none⟩) (xs.length + 1) cap))
  have HR9 := mz hR9
  have HS9 := mz hS9
  have HNA : Aside0 (∀ a, A' = some a → a.block ≠ g4) := ⟨fun a e => by rw [hA9 a e]; exact Ne.symm NG4.out.1⟩
  clear hR9 hS9 hA9
  have cg := (blk_cell QG.out 0).trans rfl
  have fg := blk_frozen QG.out 0
  go_upto_region 15 with fail
  generalize w8.setCell ⟨g, 0, none⟩ (.slice (some ⟨gr, 0, none⟩) (xs.length + 1) cap) = w9 at M4 M5 HR9 HS9 ⊢
  clear cg fg
  obtain ⟨u0, u1, u2⟩ := cells3 M5.out
  obtain ⟨t0, t1, t2⟩ := cells3 M4.out
  obtain ⟨t3, t4, t5⟩ := froz3 M4.out
  go_wp2_with fail
  have hfin := fillP M4.out rfl (p.f0) (p.f1.extract 0 n) (p.f2)
  refine bodyPost_ret (results_cell_row rfl _ _ g4 76 #[.int .i64 (p.f0), .string (p.f1.extract 0 n), .string (p.f2)] (0, 0) _ rfl hfin Try.underlying76 rfl (by kernel_rfl)) rfl ?_
  rw [HCU.out]
  refine ⟨by rw [HF.out]; rfl, _, _, rd_tail (A := some ad) (w := w) HR9.out HS9.out HS.out (blk_lt HR.out.blk) M4.out HG4.out (fun a e => HNA.out a e) _ _ _⟩
structure CompJ (R : Option Mk) (xs ys : List Part) (m : Mk) : Prop where
  val : compU (unitsL xs) (unitsL ys) m = R
  fx : ∀ p ∈ xs, okP p
  fy : ∀ p ∈ ys, okP p
  tot : leftN xs ys ≤ 1300
  bnd : BndM m (400 * (1300 - leftN xs ys))
  inv : InvM m
section
variable {R : Option Mk} {xs ys : List Part} {p q : Part} {m : Mk}
theorem CompJ.drop (h : CompJ R (p :: xs) ys m) (hd : p.f2.size ≠ 0) : CompJ R xs ys (takeM m p) ∧ leftN xs ys + 1 ≤ leftN (p :: xs) ys := by
  have hp := h.fx p List.mem_cons_self
  have hl : leftN (p :: xs) ys = sizeP p + leftN xs ys := by unfold leftN; rw [unitsL_len_cons]; omega
  have h1 := hp.1.2
  have ht := h.tot
  refine ⟨⟨by rw [← comp_drop hp.1.1 hd]; exact h.val, fun q hq => h.fx q (List.mem_cons_of_mem _ hq), h.fy, by omega, (h.bnd.take p (hp.2.mono (C' := 400) (by omega)) (by omega)).mono (by omega), h.inv.take p hp.1.1.1⟩, by omega⟩
theorem CompJ.put (h : CompJ R xs (q :: ys) m) (hd : q.f1.size ≠ 0) : CompJ R xs ys (takeM m q) ∧ leftN xs ys + 1 ≤ leftN xs (q :: ys) := by
  have hp := h.fy q List.mem_cons_self
  have hl : leftN xs (q :: ys) = sizeP q + leftN xs ys := by unfold leftN; rw [unitsL_len_cons]; omega
  have h1 := hp.1.2
  have ht := h.tot
  refine ⟨⟨by rw [← comp_put hp.1.1 hd]; exact h.val, h.fx, fun x hq => h.fy x (List.mem_cons_of_mem _ hq), by omega, (h.bnd.take q (hp.2.mono (C' := 400) (by omega)) (by omega)).mono (by omega), h.inv.take q hp.1.1.1⟩, by omega⟩
theorem CompJ.both (h : CompJ R (p :: xs) (q :: ys) m) (h1 : p.f2.size = 0) (h2 : q.f1.size = 0) (n : Nat) (hn : n = min (sizeP p) (sizeP q)) :
    0 < n ∧ n ≤ sizeP p ∧ n ≤ sizeP q ∧ leftN (cutL p xs n) (cutL q ys n) + 1 ≤ leftN (p :: xs) (q :: ys) ∧ okP (firstP p n) ∧ okP (firstP q n) ∧
    (0 < q.f0 → CompJ R (cutL p xs n) (cutL q ys n) (takeM m (firstP p n))) ∧
    (¬ 0 < q.f0 → 0 < p.f0 → CompJ R (cutL p xs n) (cutL q ys n) (takeM m (firstP q n))) ∧
    (¬ 0 < q.f0 → ¬ 0 < p.f0 → (firstP p n).f1 = (firstP q n).f2 → CompJ R (cutL p xs n) (cutL q ys n) m) ∧
    (¬ 0 < q.f0 → ¬ 0 < p.f0 → (firstP p n).f1 ≠ (firstP q n).f2 → R = none) := by
  have hp := h.fx p List.mem_cons_self
  have hq := h.fy q List.mem_cons_self
  have hnp : n ≤ sizeP p := by omega
  have hnq : n ≤ sizeP q := by omega
  have hn0 : 0 < n := by have := hp.1.2; have := hq.1.2; omega
  have l1 := cutL_len (xs := xs) n hp.1 hnp
  have l2 := cutL_len (xs := ys) n hq.1 hnq
  have hl : leftN (p :: xs) (q :: ys) = n + n + leftN (cutL p xs n) (cutL q ys n) := by unfold leftN; omega
  have ht := h.tot
  have hv := comp_both hp.1 hq.1 h1 h2 xs ys m n hnp hnq
  rw [h.val] at hv
  have o1 : okP (firstP p n) := ⟨⟨pure_first n hp.1.1, by rw [firstP_size n hp.1 hnp]; exact hn0⟩, smallQ_first n hp.2 (by have := hp.le; omega)⟩
  have o2 : okP (firstP q n) := ⟨⟨pure_first n hq.1.1, by rw [firstP_size n hq.1 hnq]; exact hn0⟩, smallQ_first n hq.2 (by have := hp.le; omega)⟩
  have fx := ok_cutL (xs := xs) n hp hnp (fun x hx => h.fx x (List.mem_cons_of_mem _ hx))
  have fy := ok_cutL (xs := ys) n hq hnq (fun x hx => h.fy x (List.mem_cons_of_mem _ hx))
  refine ⟨hn0, hnp, hnq, by omega, o1, o2, fun b => ?_, fun b a => ?_, fun b a c => ?_, fun b a c => ?_⟩
  · rw [if_pos b] at hv
    exact ⟨hv.symm, fx, fy, by omega, (h.bnd.take _ (o1.2.mono (C' := 400) (by omega)) (by omega)).mono (by omega), h.inv.take _ o1.1.1.1⟩
  · rw [if_neg b, if_pos a] at hv
    exact ⟨hv.symm, fx, fy, by omega, (h.bnd.take _ (o2.2.mono (C' := 400) (by omega)) (by omega)).mono (by omega), h.inv.take _ o2.1.1.1⟩
  · rw [if_neg b, if_neg a, if_pos c] at hv
    exact ⟨hv.symm, fx, fy, by omega, h.bnd.mono (by omega), h.inv⟩
  · rw [if_neg b, if_neg a, if_neg c] at hv
    exact hv
end
theorem CompJ.done {R : Option Mk} {m : Mk} (h : CompJ R [] [] m) : R = some m := by rw [← h.val, comp_done]

theorem CompJ.addOk {R : Option Mk} {xs ys : List Part} {m : Mk} (h : CompJ R xs ys m) {p : Part} (hp : okP p) : AddOk (madeL m) p :=
  ⟨hp.1.1, by have := h.bnd.len; omega, hp.2.mono (by omega), fun q hq => (h.bnd.mem q hq).mono (by omega)⟩
theorem SepR.byAdd {l : List Part} {A : Option Addr} {v v' : Value} {t : TypeId} {w w' : World} {g c base : Nat} (h : SepR l A v) (hr : IsRd t w g A c l) (hs : AStep base v v' w w') : SepR l A v' := by
  intro hl a ha e
  rcases hs.own with e2 | ⟨b, e2, hle⟩
  · exact h hl a ha (e.trans e2)
  · obtain ⟨a', e3, hlt⟩ := C_addr hr.row hl
    rw [ha] at e3; injection e3 with e3; subst e3
    rw [e2] at e; injection e with e; omega
structure StS (t : TypeId) (base : Nat) (w : World) (g1 g2 : Nat) (A1 : Option Addr) (c1 : Nat) (xs : List Part) (A2 : Option Addr) (c2 : Nat) (ys : List Part) (v : Value) (L : List Part) : Prop where
  r1 : IsRd t w g1 A1 c1 xs
  r2 : IsRd t w g2 A2 c2 ys
  row : OwnP base w v L
  s1 : SepR xs A1 v
  s2 : SepR ys A2 v
  ne : g1 ≠ g2
  le : base ≤ g1 ∧ base ≤ g2
section
variable {t : TypeId} {base g1 g2 c1 c2 : Nat} {w w' : World} {A1 A2 : Option Addr} {xs ys l' L L' : List Part} {v v' : Value} (htp : t ≠ 76)
theorem StS.below (h : StS t base w g1 g2 A1 c1 xs A2 c2 ys v L) (hb : Below w.heap.size w w') : StS t base w' g1 g2 A1 c1 xs A2 c2 ys v L := ⟨h.r1.below hb, h.r2.below hb, h.row.below hb, h.s1, h.s2, h.ne, h.le⟩
theorem StS.size (h : StS t base w g1 g2 A1 c1 xs A2 c2 ys v L) : base ≤ w.heap.size := Nat.le_of_lt (Nat.lt_of_le_of_lt h.le.1 (blk_lt h.r1.blk))
theorem SepR.byRdS {l l' : List Part} {A A' : Option Addr} {v : Value} {w w' : World} {g base : Nat} {L : List Part} (h : SepR l A v) (hl0 : 0 < l.length) (hm : OwnP base w v L) (hs : RStep base g A A' w w') : SepR l' A' v := by
  intro _ a ha e
  rcases hs.own a ha with ⟨b, hb, e2⟩ | hle
  · exact h hl0 b hb (by rw [← e2]; exact e)
  · have := own_lt hm a.block e.symm; omega
include htp in
theorem StS.rd1 (h : StS t base w g1 g2 A1 c1 xs A2 c2 ys v L) (h0 : 0 < xs.length) (hP : RdPost t base g1 A1 l' w w') : Below base w w' ∧ Kept w w' (fun k => k = g1) ∧ ∃ A' c', StS t base w' g1 g2 A' c' l' A2 c2 ys v L := by
  obtain ⟨A', c', hr, hs⟩ := hP
  exact ⟨hs.below, hs.kept, A', c', hr, h.r2.by_rd h.r1 (Ne.symm h.ne) hs.kept, own_move h.row (fun k hk => hs.kept.2 k (own_lt h.row k hk) (fun e => own_ne h.row h.r1.blk (Ne.symm htp) (by rw [hk, e]))), h.s1.byRdS h0 h.row hs, h.s2, h.ne, h.le⟩
include htp in
theorem StS.rd2 (h : StS t base w g1 g2 A1 c1 xs A2 c2 ys v L) (h0 : 0 < ys.length) (hP : RdPost t base g2 A2 l' w w') : Below base w w' ∧ Kept w w' (fun k => k = g2) ∧ ∃ A' c', StS t base w' g1 g2 A1 c1 xs A' c' l' v L := by
  obtain ⟨A', c', hr, hs⟩ := hP
  exact ⟨hs.below, hs.kept, A', c', h.r1.by_rd h.r2 h.ne hs.kept, hr, own_move h.row (fun k hk => hs.kept.2 k (own_lt h.row k hk) (fun e => own_ne h.row h.r2.blk (Ne.symm htp) (by rw [hk, e]))), h.s1, h.s2.byRdS h0 h.row hs, h.ne, h.le⟩
include htp in
theorem StS.add (h : StS t base w g1 g2 A1 c1 xs A2 c2 ys v L) (hP : AddPost base v L' w w' v') : Below base w w' ∧ StS t base w' g1 g2 A1 c1 xs A2 c2 ys v' L' := by
  obtain ⟨ho, hs⟩ := hP
  refine ⟨hs.below, h.r1.kept hs.kept (fun e => own_ne h.row h.r1.blk (Ne.symm htp) e) (fun hl a ha e => h.s1 hl a ha e), h.r2.kept hs.kept (fun e => own_ne h.row h.r2.blk (Ne.symm htp) e) (fun hl a ha e => h.s2 hl a ha e), ho, h.s1.byAdd h.r1 hs, h.s2.byAdd h.r2 hs, h.ne, h.le⟩
end
end Go.Proofs.Ytjffmnfhlpggfaa.X
