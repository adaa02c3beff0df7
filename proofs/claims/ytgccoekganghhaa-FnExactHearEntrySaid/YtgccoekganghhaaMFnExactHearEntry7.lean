/- The law FnExactHearEntry of the program: its proof, part 7. -/
import Derived.Test.YtgccoekganghhaaMFnExactHearEntry6
import Derived.Deep.DeepCutAuto
import Derived.Test.YtgccoekganghhaaMFnExactHearEntry2
import Derived.Test.YtgccoekganghhaaMFnExactHearEntry5
import Derived.Test.YtgccoekganghhaaMFnExactHearEntry3
import Derived.Test.YtgccoekganghhaaMFnExactHearEntry4
import Derived.ProofKit
import Derived.OpenShut
import Derived.ChangeSlices
import Derived.Test.YtgccoekganghhaaRows
import Derived.WalkKit
import Derived.ShutString
import Derived.ChangeOld
import Derived.Below
import Derived.SizedLaws
set_option linter.unusedVariables false
set_option linter.unusedSimpArgs false
namespace Go.Proofs.Ytgccoekganghhaa.X
open Go.RowKit Go.Proofs.YtgccoekganghhaaW.PrintWords Go.Proofs.YtgccoekganghhaaW.PrintLast Go.Proofs.YtgccoekganghhaaW.PrintMore
set_option maxHeartbeats 16000000 in
set_option maxRecDepth 100000 in
theorem specHear_walk (i : Int) (t : ByteArray) (v q : Int) (b : Bool) (A5 : Option Addr) (c5 : Nat) (s5 : List Part) (A6 : Option Addr) (c6 : Nat) (s6 : List Part) (d : Bool) (e0 e1 : Int) (A1 : Option Addr) (c1 : Nat) (op : List Part) (r1 : Int) (r2 : ByteArray) (r3 r4 : Int) (r5 : Bool) (r6 r7 : List Part) (r8 r9 : Bool) (w : World) (g5 : Kd.C k86 w A5 s5.length s5) (e5 : s5.length ≤ c5) (g6 : Kd.C k86 w A6 s6.length s6) (e6 : s6.length ≤ c6) (g1 : Kd.C k86 w A1 op.length op) (e1' : op.length ≤ c1) (h1 : t.size ≤ maxLen) (h5 : sizedP s5 = true) (h6 : sizedP s6 = true) (ho : sizedP op = true) (h0 : hearV ⟨i, t, v, q, b, s5, s6, d⟩ e0 e1 op = (r1, r2, r3, r4, r5, r6, r7, r8, r9)) :
  Calls Try.prog 27 #[.agg #[.int .i64 i, .string t, .int .i64 v, .int .i64 q, .bool b, .slice A5 s5.length c5, .slice A6 s6.length c6, .bool d], .agg #[.int .i64 e0, .int .i64 e1, .slice A1 op.length c1]] w fun e w' => ∃ v5_ v6_ : Value, e = .returned (.tuple #[.agg #[.int .i64 r1, .string r2, .int .i64 r3, .int .i64 r4, .bool r5, v5_, v6_, .bool r8], .bool r9]) ∧ Kd.R k86 86 w' w.heap.size (fun k_ => some k_ ≠ (v6_ : Value).ownBlock) v5_ r6 ∧ Kd.R k86 86 w' w.heap.size (fun k_ => some k_ ≠ (v5_ : Value).ownBlock) v6_ r7 ∧ Below w.heap.size w w' := by
 have hcl := spec_l16Client_ev ⟨i, t, v, q, b, s5, s6, d⟩ h1 h5 h6
 obtain ⟨ke, hke⟩ := Ev.rounds (specEntry_ev ⟨e0, e1, op⟩ ho)
 simp only at hcl hke
 obtain ⟨cb, hcb⟩ : ∃ cb, clientB ⟨i, t, v, q, b, s5, s6, d⟩ = cb := ⟨_, rfl⟩
 obtain ⟨eb, heb⟩ : ∃ eb, entryB ⟨e0, e1, op⟩ = eb := ⟨_, rfl⟩
 rw [hcb] at hcl
 rw [heb] at hke
 have G5 := mz g5
 have E5 := mz e5
 have G6 := mz g6
 have E6 := mz e6
 have G1 := mz g1
 have E1 := mz e1'
 have H5 := mz h5
 have H6 := mz h6
 have HO := mz ho
 have H1 := mz h1
 have HCL := mz hcl
 have HKE := mz hke
 have HC := mz hcb
 have HE := mz heb
 have H0 := mz h0
 clear g5 e5 g6 e6 g1 e1' h1 h5 h6 ho hcl hke hcb heb h0
 go_enter Try.func27, Try.ntmps27
 go_upto_region 1 with (first | ((with_reducible refine gate_dst (N := 2) rfl ?_); refine bx 2 #[.int .i64 i, .string t, .int .i64 v, .int .i64 q, .bool b, .slice A5 s5.length c5, .slice A6 s6.length c6, .bool d] 45 ?_; intro gc hg w1 hbox hb; have HG1 := mz hg; have HB1 := mz hb; have BC1 := mz hbox; clear hg hb hbox) | ((with_reducible refine gate_dst (N := 3) rfl ?_); refine bx 3 #[.int .i64 e0, .int .i64 e1, .slice A1 op.length c1] 57 ?_; intro ge hg w1' hbox hb; have HGb := mz hg; have HBb := mz (below_step HB1.out hb); have BCb := mz (blk_below BC1.out hb); have BEb := mz hbox; have HNBE : Aside0 (ge ≠ gc) := ⟨fun e => absurd (blk_lt BC1.out) (by rw [← e, hg]; exact Nat.lt_irrefl _)⟩; clear hg hb hbox) | ((with_reducible refine gate_dst (N := 4) rfl ?_); refine bx 4 #[.int .i64 0, .string ⟨#[]⟩, .int .i64 0, .int .i64 0, .bool false, .slice none 0 0, .slice none 0 0, .bool false] 45 ?_; intro gr hg w2 hbox hb; have HB2 := mz (below_step HBb.out hb); have BC2 := mz (blk_below BCb.out hb); have BE := mz (blk_below BEb.out hb); have BR2 := mz hbox; have HGE : Aside0 (w.heap.size ≤ gc ∧ w.heap.size ≤ gr ∧ gr ≠ gc) := ⟨⟨Nat.le_of_eq HG1.out.symm, by rw [hg]; exact HBb.out.size, fun e => absurd (blk_lt BCb.out) (by rw [← e, hg]; exact Nat.lt_irrefl _)⟩⟩; clear hg hb hbox HB1 BC1 HG1 HBb BCb BEb HGb))
 (try simp only [Act.put, List.setIfInBounds_toArray, List.set_cons_zero, List.set_cons_succ])
 obtain ⟨x0, x1, x2, x3, x4, x5, x6, x7⟩ := cells8 BC2.out
 obtain ⟨y0, y1, y2, y3, y4, y5, y6, y7⟩ := froz8 BC2.out
 go_wp2_with fail
 clear x0 y0 x1 y1 x2 y2 x3 y3 x4 y4 x5 y5 x6 y6 x7 y7
 refine (spec_l16Client.calls i t v q b A5 c5 s5 A6 c6 s6 d cb _ (Kd.C_below G5.out HB2.out) E5.out (Kd.C_below G6.out HB2.out) E6.out HCL.out).mono ?_
 rintro e w3 ⟨rfl, hb⟩
 have HB3 := mz (below_step HB2.out hb)
 have BC3 := mz (blk_below BC2.out hb)
 have BR3 := mz (blk_below BR2.out hb)
 have BE_3 := mz (blk_below BE.out hb)
 clear hb
 cases cb with
 | false =>
  have hv : hearV ⟨i, t, v, q, b, s5, s6, d⟩ e0 e1 op = zeroC := by unfold hearV; rw [HC.out]; simp
  have h0 := H0.out
  rw [hv] at h0
  simp only [zeroC, Prod.mk.injEq] at h0
  obtain ⟨rfl, rfl, rfl, rfl, rfl, rfl, rfl, rfl, rfl⟩ := h0
  clear hv
  obtain ⟨u0, u1, u2, u3, u4, u5, u6, u7⟩ := cells8 BR3.out
  obtain ⟨z0, z1, z2, z3, z4, z5, z6, z7⟩ := froz8 BR3.out
  go_wp2_with fail
  have hp := put8 (.int .i64 0) (.string ⟨#[]⟩) (.int .i64 0) (.int .i64 0) (.bool false) (.slice none 0 0) (.slice none 0 0) (.bool false) HB3.out HGE.out.2.1 BR3.out
  (try simp only [Exit.inBlock, Exit.then])
  refine bodyPost_ret (results_ct rfl _ _ gr 45 _ (0, 0) _ rfl hp.1 Try.underlying45 rfl (by kernel_rfl)) rfl ?_
  exact ⟨.slice none 0 0, .slice none 0 0, rfl, Kd.R_nil _ _ _ _ _, Kd.R_nil _ _ _ _ _, hp.2.1⟩
 | true =>
  obtain ⟨k0, k1, k2⟩ := cells3 BE_3.out
  go_wp2_with fail
  clear k0 k1 k2
  refine (spec_l15Entry.calls ke e0 e1 A1 c1 op eb _ (Kd.C_below G1.out HB3.out) E1.out HKE.out).mono ?_
  rintro e w4 ⟨rfl, hb⟩
  have HB4 := mz (below_step HB3.out hb)
  have BC4 := mz (blk_below BC3.out hb)
  have BR4 := mz (blk_below BR3.out hb)
  have BE_4 := mz (blk_below BE_3.out hb)
  clear hb
  cases eb with
  | false =>
   have hv : hearV ⟨i, t, v, q, b, s5, s6, d⟩ e0 e1 op = zeroC := by unfold hearV; rw [HE.out]; simp
   have h0 := H0.out
   rw [hv] at h0
   simp only [zeroC, Prod.mk.injEq] at h0
   obtain ⟨rfl, rfl, rfl, rfl, rfl, rfl, rfl, rfl, rfl⟩ := h0
   clear hv
   obtain ⟨u0, u1, u2, u3, u4, u5, u6, u7⟩ := cells8 BR4.out
   obtain ⟨z0, z1, z2, z3, z4, z5, z6, z7⟩ := froz8 BR4.out
   go_wp2_with fail
   have hp := put8 (.int .i64 0) (.string ⟨#[]⟩) (.int .i64 0) (.int .i64 0) (.bool false) (.slice none 0 0) (.slice none 0 0) (.bool false) HB4.out HGE.out.2.1 BR4.out
   (try simp only [Exit.inBlock, Exit.then])
   refine bodyPost_ret (results_ct rfl _ _ gr 45 _ (0, 0) _ rfl hp.1 Try.underlying45 rfl (by kernel_rfl)) rfl ?_
   exact ⟨.slice none 0 0, .slice none 0 0, rfl, Kd.R_nil _ _ _ _ _, Kd.R_nil _ _ _ _ _, hp.2.1⟩
  | true =>
   have hcb := clientB_of HC.out
   simp only at hcb
   have HCB := mz hcb
   clear hcb
   have HOP : Aside0 (opB op = true) := ⟨(entryB_of HE.out).2.2.2.2⟩
   skip
   have hown := ownClient_val HC.out
   simp only at hown
   have HOWN := mz hown
   clear hown
   have HWV : Aside0 (wrap64 (v + 1) = v + 1) := ⟨w64 (by have := HCB.out.2.2.2.1; omega) (by have := HCB.out.2.2.2.2.1; omega)⟩
   have HWQ : Aside0 (wrap64 (q + 1) = q + 1) := ⟨w64 (by have := HCB.out.2.2.2.2.2; omega) (by have := HCB.out.2.2.2.2.2; omega)⟩
   obtain ⟨x0, x1, x2, x3, x4, x5, x6, x7⟩ := cells8 BC4.out
   obtain ⟨y0, y1, y2, y3, y4, y5, y6, y7⟩ := froz8 BC4.out
   go_wp2_with fail
   clear x0 y0 x1 y1 x2 y2 x3 y3 x4 y4 x5 y5 x6 y6 x7 y7
   refine (spec_l16OwnClient.calls i t v q b A5 c5 s5 A6 c6 s6 d i t v q b s5 s6 d _ (Kd.C_below G5.out HB4.out) E5.out (Kd.C_below G6.out HB4.out) E6.out HOWN.out).mono ?_
   rintro e w5 ⟨v5, v6, rfl, hR5, hR6, hb⟩
   have HB5 := mz (below_step HB4.out hb)
   have BC5 := mz (blk_below BC4.out hb)
   have BR5 := mz (blk_below BR4.out hb)
   have BE_5 := mz (blk_below BE_4.out hb)
   have Z5 := mz hb.size
   clear hb
   have HD56 := mz (fun k e e' => hR5.1 k e e'.symm : ∀ k, v5.ownBlock = some k → ¬ v6.ownBlock = some k)
   obtain ⟨B5, B5c, eo⟩ := Kd.R_slice hR5
   subst eo
   have SB5 := mz (R_new hR5 HB4.out.size)
   have HLSB5 : Aside0 (gc < w4.heap.size) := ⟨blk_lt BC4.out⟩
   have HLRSB5 : Aside0 (gr < w4.heap.size) := ⟨blk_lt BR4.out⟩
   clear hR5
   obtain ⟨B6, B6c, eo⟩ := Kd.R_slice hR6
   subst eo
   have SB6 := mz (R_new hR6 HB4.out.size)
   have HLSB6 : Aside0 (gc < w4.heap.size) := ⟨blk_lt BC4.out⟩
   have HLRSB6 : Aside0 (gr < w4.heap.size) := ⟨blk_lt BR4.out⟩
   clear hR6
   obtain ⟨x0, x1, x2, x3, x4, x5, x6, x7⟩ := cells8 BC5.out
   obtain ⟨y0, y1, y2, y3, y4, y5, y6, y7⟩ := froz8 BC5.out
   go_upto_region 4 with fail
   clear x0 y0 x1 y1 x2 y2 x3 y3 x4 y4 x5 y5 x6 y6 x7 y7
   have hp0 := put8 (.int .i64 i) (.string t) (.int .i64 v) (.int .i64 q) (.bool b) (.slice B5 s5.length B5c) (.slice B6 s6.length B6c) (.bool d) HB5.out HGE.out.1 BC5.out
   have HB6 := mz hp0.2.1
   have BC6 := mz hp0.1
   have BR6 := mz (blk_one BR5.out hp0.2.2 HGE.out.2.2)
   have SB5_6 := mz (R_one SB5.out hp0.2.2 (by have := HLSB5.out; omega))
   have SB6_6 := mz (R_one SB6.out hp0.2.2 (by have := HLSB6.out; omega))
   have BE_6 := mz (blk_one BE_5.out hp0.2.2 HNBE.out)
   have Z6 := mz (Nat.le_trans (Nat.le_refl _) hp0.2.2.1)
   clear hp0
   generalize (((((((w5.setCell ⟨gc, 0, none⟩ (.int .i64 i)).setCell ⟨gc, 1, none⟩ (.string t)).setCell ⟨gc, 2, none⟩ (.int .i64 v)).setCell ⟨gc, 3, none⟩ (.int .i64 q)).setCell ⟨gc, 4, none⟩ (.bool b)).setCell ⟨gc, 5, none⟩ (.slice B5 s5.length B5c)).setCell ⟨gc, 6, none⟩ (.slice B6 s6.length B6c)).setCell ⟨gc, 7, none⟩ (.bool d) = w6 at HB6 BC6 BR6  Z6  SB5_6 SB6_6 BE_6 ⊢
   obtain ⟨x0, x1, x2, x3, x4, x5, x6, x7⟩ := cells8 BC6.out
   obtain ⟨y0, y1, y2, y3, y4, y5, y6, y7⟩ := froz8 BC6.out
   go_upto_region 5 with fail
   rw [HWV.out]
   clear x0 y0 x1 y1 x2 y2 x3 y3 x4 y4 x5 y5 x6 y6 x7 y7
   have hp0 := put1 2 (.int .i64 (v + 1)) #[.int .i64 i, .string t, .int .i64 (v + 1), .int .i64 q, .bool b, .slice B5 s5.length B5c, .slice B6 s6.length B6c, .bool d] rfl HB6.out HGE.out.1 BC6.out
   have HB7 := mz hp0.2.1
   have BC7 := mz hp0.1
   have BR7 := mz (blk_one BR6.out hp0.2.2 HGE.out.2.2)
   have SB5_7 := mz (R_one SB5_6.out hp0.2.2 (by have := HLSB5.out; omega))
   have SB6_7 := mz (R_one SB6_6.out hp0.2.2 (by have := HLSB6.out; omega))
   have BE_7 := mz (blk_one BE_6.out hp0.2.2 HNBE.out)
   have Z7 := mz (Nat.le_trans (Nat.le_refl _) hp0.2.2.1)
   clear hp0
   generalize w6.setCell ⟨gc, 2, none⟩ (.int .i64 (v + 1)) = w7 at HB7 BC7 BR7  Z7  SB5_7 SB6_7 BE_7 ⊢
   go_cut [45] (fun z wc => z = .bool (ownB' ⟨i, t, v, q, b, s5, s6, d⟩ e0 e1) ∧ Aside0 (wc = w7))
   case first =>
    obtain ⟨x0, x1, x2, x3, x4, x5, x6, x7⟩ := cells8 BC7.out
    obtain ⟨y0, y1, y2, y3, y4, y5, y6, y7⟩ := froz8 BC7.out
    obtain ⟨k0, k1, k2⟩ := cells3 BE_7.out
    by_cases a0 : e0 = i
    ·by_cases a1 : e1 = q
     ·cases b with
      | false =>
       go_wp2_with fail
       go_meet
       case rel => exact ⟨by simp [ownB', a0, a1], ⟨rfl⟩⟩
      | true =>
       go_wp2_with fail
       go_meet
       case rel => exact ⟨by simp [ownB', a0, a1], ⟨rfl⟩⟩
     ·cases b with
      | false =>
       go_wp2_with fail
       go_meet
       case rel => exact ⟨by simp [ownB', a0, a1], ⟨rfl⟩⟩
      | true =>
       go_wp2_with fail
       go_meet
       case rel => exact ⟨by simp [ownB', a0, a1], ⟨rfl⟩⟩
    ·cases b with
     | false =>
      go_wp2_with fail
      go_meet
      case rel => exact ⟨by simp [ownB', a0], ⟨rfl⟩⟩
     | true =>
      go_wp2_with fail
      go_meet
      case rel => exact ⟨by simp [ownB', a0], ⟨rfl⟩⟩
   case rest =>
    obtain ⟨rfl, hwc⟩ := hcut
    obtain rfl := hwc.out.symm
    clear hwc
    obtain ⟨ob, hob⟩ : ∃ ob, ownB' ⟨i, t, v, q, b, s5, s6, d⟩ e0 e1 = ob := ⟨_, rfl⟩
    rw [hob]
    have HOB := mz hob
    clear hob
    skip
    cases ob with
    | true =>
     have hb' : b = true := by cases b with | true => rfl | false => exact absurd HOB.out (by simp [ownB'])
     subst hb'
     obtain ⟨x0, x1, x2, x3, x4, x5, x6, x7⟩ := cells8 BC7.out
     obtain ⟨y0, y1, y2, y3, y4, y5, y6, y7⟩ := froz8 BC7.out
     go_upto_region 7 with fail
     clear x0 y0 x1 y1 x2 y2 x3 y3 x4 y4 x5 y5 x6 y6 x7 y7
     have hp0 := put1 4 (.bool d) #[.int .i64 i, .string t, .int .i64 (v + 1), .int .i64 q, .bool d, .slice B5 s5.length B5c, .slice B6 s6.length B6c, .bool d] rfl HB7.out HGE.out.1 BC7.out
     have HB8 := mz hp0.2.1
     have BC8 := mz hp0.1
     have BR8 := mz (blk_one BR7.out hp0.2.2 HGE.out.2.2)
     have SB5_8 := mz (R_one SB5_7.out hp0.2.2 (by have := HLSB5.out; omega))
     have SB6_8 := mz (R_one SB6_7.out hp0.2.2 (by have := HLSB6.out; omega))
     have BE_8 := mz (blk_one BE_7.out hp0.2.2 HNBE.out)
     have Z8 := mz (Nat.le_trans (Nat.le_refl _) hp0.2.2.1)
     clear hp0
     generalize w7.setCell ⟨gc, 4, none⟩ (.bool d) = w8 at HB8 BC8 BR8  Z8  SB5_8 SB6_8 BE_8 ⊢
     obtain ⟨x0, x1, x2, x3, x4, x5, x6, x7⟩ := cells8 BC8.out
     obtain ⟨y0, y1, y2, y3, y4, y5, y6, y7⟩ := froz8 BC8.out
     go_upto_region 8 with fail
     clear x0 y0 x1 y1 x2 y2 x3 y3 x4 y4 x5 y5 x6 y6 x7 y7
     have hp0 := put1 5 (.slice B6 s6.length B6c) #[.int .i64 i, .string t, .int .i64 (v + 1), .int .i64 q, .bool d, .slice B6 s6.length B6c, .slice B6 s6.length B6c, .bool d] rfl HB8.out HGE.out.1 BC8.out
     have HB9 := mz hp0.2.1
     have BC9 := mz hp0.1
     have BR9 := mz (blk_one BR8.out hp0.2.2 HGE.out.2.2)
     have SB5_9 := mz (R_one SB5_8.out hp0.2.2 (by have := HLSB5.out; omega))
     have SB6_9 := mz (R_one SB6_8.out hp0.2.2 (by have := HLSB6.out; omega))
     have BE_9 := mz (blk_one BE_8.out hp0.2.2 HNBE.out)
     have Z9 := mz (Nat.le_trans (Nat.le_refl _) hp0.2.2.1)
     clear hp0
     generalize w8.setCell ⟨gc, 5, none⟩ (.slice B6 s6.length B6c) = w9 at HB9 BC9 BR9  Z9  SB5_9 SB6_9 BE_9 ⊢
     obtain ⟨x0, x1, x2, x3, x4, x5, x6, x7⟩ := cells8 BC9.out
     obtain ⟨y0, y1, y2, y3, y4, y5, y6, y7⟩ := froz8 BC9.out
     go_upto_region 9 with fail
     clear x0 y0 x1 y1 x2 y2 x3 y3 x4 y4 x5 y5 x6 y6 x7 y7
     have hp0 := put1 6 (.slice none 0 0) #[.int .i64 i, .string t, .int .i64 (v + 1), .int .i64 q, .bool d, .slice B6 s6.length B6c, .slice none 0 0, .bool d] rfl HB9.out HGE.out.1 BC9.out
     have HB10 := mz hp0.2.1
     have BC10 := mz hp0.1
     have BR10 := mz (blk_one BR9.out hp0.2.2 HGE.out.2.2)
     have SB5_10 := mz (R_one SB5_9.out hp0.2.2 (by have := HLSB5.out; omega))
     have SB6_10 := mz (R_one SB6_9.out hp0.2.2 (by have := HLSB6.out; omega))
     have BE_10 := mz (blk_one BE_9.out hp0.2.2 HNBE.out)
     have Z10 := mz (Nat.le_trans (Nat.le_refl _) hp0.2.2.1)
     clear hp0
     generalize w9.setCell ⟨gc, 6, none⟩ (.slice none 0 0) = w10 at HB10 BC10 BR10  Z10  SB5_10 SB6_10 BE_10 ⊢
     obtain ⟨x0, x1, x2, x3, x4, x5, x6, x7⟩ := cells8 BC10.out
     obtain ⟨y0, y1, y2, y3, y4, y5, y6, y7⟩ := froz8 BC10.out
     cases d with
     | false =>
      go_upto_region 12 with fail
      clear x0 y0 x1 y1 x2 y2 x3 y3 x4 y4 x5 y5 x6 y6 x7 y7
      have hp0 := put1 7 (.bool false) #[.int .i64 i, .string t, .int .i64 (v + 1), .int .i64 q, .bool false, .slice B6 s6.length B6c, .slice none 0 0, .bool false] rfl HB10.out HGE.out.1 BC10.out
      have HB11 := mz hp0.2.1
      have BC11 := mz hp0.1
      have BR11 := mz (blk_one BR10.out hp0.2.2 HGE.out.2.2)
      have SB5_11 := mz (R_one SB5_10.out hp0.2.2 (by have := HLSB5.out; omega))
      have SB6_11 := mz (R_one SB6_10.out hp0.2.2 (by have := HLSB6.out; omega))
      have BE_11 := mz (blk_one BE_10.out hp0.2.2 HNBE.out)
      have Z11 := mz (Nat.le_trans (Nat.le_refl _) hp0.2.2.1)
      clear hp0
      generalize w10.setCell ⟨gc, 7, none⟩ (.bool false) = w11 at HB11 BC11 BR11  Z11  SB5_11 SB6_11 BE_11 ⊢
      have HV : Aside0 (hearV ⟨i, t, v, q, true, s5, s6, false⟩ e0 e1 op = goodC ⟨i, t, v + 1, q, false, s6, [], false⟩) := ⟨by unfold hearV; rw [if_pos ⟨HC.out, HE.out⟩, if_pos HOB.out]; rfl⟩
      have Snil := mz (nilR w11 w.heap.size w11.heap.size)
      have HLSnil : Aside0 (gc < w11.heap.size) := ⟨blk_lt BC11.out⟩
      have HLRSnil : Aside0 (gr < w11.heap.size) := ⟨blk_lt BR11.out⟩
      have hcl2 := spec_l16Client_ev ⟨i, t, v + 1, q, false, s6, [], false⟩ H1.out H6.out rfl
      simp only at hcl2
      obtain ⟨qb, hq⟩ : ∃ qb, clientB ⟨i, t, v + 1, q, false, s6, [], false⟩ = qb := ⟨_, rfl⟩
      rw [hq] at hcl2
      have HQ := mz hq
      have HCL2 := mz hcl2
      clear hcl2 hq
      obtain ⟨x0, x1, x2, x3, x4, x5, x6, x7⟩ := cells8 BC11.out
      obtain ⟨y0, y1, y2, y3, y4, y5, y6, y7⟩ := froz8 BC11.out
      go_wp2_with fail
      clear x0 y0 x1 y1 x2 y2 x3 y3 x4 y4 x5 y5 x6 y6 x7 y7
      refine (spec_l16Client.calls i t (v + 1) q false B6 B6c s6 none 0 ([] : List Part) false qb _ (Kd.R_reads' SB6_11.out).2.2 (Kd.R_reads' SB6_11.out).2.1 (Kd.R_reads' Snil.out).2.2 (Kd.R_reads' Snil.out).2.1 HCL2.out).mono ?_
      rintro e w12 ⟨rfl, hb⟩
      have HB12 := mz (below_step HB11.out hb)
      have BC12 := mz (blk_below BC11.out hb)
      have BR12 := mz (blk_below BR11.out hb)
      have BE_12 := mz (blk_below BE_11.out hb)
      have SB5_12 := mz (Kd.R_below SB5_11.out hb)
      have SB6_12 := mz (Kd.R_below SB6_11.out hb)
      have Snil_12 := mz (Kd.R_below Snil.out hb)
      have Z12 := mz hb.size
      clear hb
      cases qb with
      | false =>
       have hv2 := HV.out.symm.trans H0.out
       unfold goodC at hv2
       rw [HQ.out] at hv2
       simp only [Bool.false_eq_true, if_false, if_true, zeroC, Prod.mk.injEq] at hv2
       obtain ⟨rfl, rfl, rfl, rfl, rfl, rfl, rfl, rfl, rfl⟩ := hv2
       obtain ⟨u0, u1, u2, u3, u4, u5, u6, u7⟩ := cells8 BR12.out
       obtain ⟨z0, z1, z2, z3, z4, z5, z6, z7⟩ := froz8 BR12.out
       go_wp2_with fail
       have hp := put8 (.int .i64 0) (.string ⟨#[]⟩) (.int .i64 0) (.int .i64 0) (.bool false) (.slice none 0 0) (.slice none 0 0) (.bool false) HB12.out HGE.out.2.1 BR12.out
       (try simp only [Exit.inBlock, Exit.then])
       refine bodyPost_ret (results_ct rfl _ _ gr 45 _ (0, 0) _ rfl hp.1 Try.underlying45 rfl (by kernel_rfl)) rfl ?_
       exact ⟨.slice none 0 0, .slice none 0 0, rfl, Kd.R_nil _ _ _ _ _, Kd.R_nil _ _ _ _ _, hp.2.1⟩
      | true =>
       obtain ⟨x0, x1, x2, x3, x4, x5, x6, x7⟩ := cells8 BC12.out
       obtain ⟨y0, y1, y2, y3, y4, y5, y6, y7⟩ := froz8 BC12.out
       have hv2 := HV.out.symm.trans H0.out
       unfold goodC at hv2
       rw [HQ.out] at hv2
       simp only [Bool.false_eq_true, if_false, if_true, tupC, Prod.mk.injEq] at hv2
       obtain ⟨rfl, rfl, rfl, rfl, rfl, rfl, rfl, rfl, rfl⟩ := hv2
       obtain ⟨u0, u1, u2, u3, u4, u5, u6, u7⟩ := cells8 BR12.out
       obtain ⟨z0, z1, z2, z3, z4, z5, z6, z7⟩ := froz8 BR12.out
       go_wp2_with fail
       have hp := put8 (.int .i64 i) (.string t) (.int .i64 (v + 1)) (.int .i64 q) (.bool false) (.slice B6 s6.length B6c) (.slice none 0 0) (.bool false) HB12.out HGE.out.2.1 BR12.out
       have q5 := R_one SB6_12.out hp.2.2 a32_
       have q6 := R_one Snil_12.out hp.2.2 (by have := HLSnil.out; have := HLRSnil.out; omega)
       have ht := R_two q5 q6 (.inl (by skip; have := Z6.out; have := Z7.out; have := Z8.out; have := Z9.out; have := Z10.out; have := Z11.out; omega))
       (try simp only [Exit.inBlock, Exit.then])
       refine bodyPost_ret (results_ct rfl _ _ gr 45 _ (0, 0) _ rfl hp.1 Try.underlying45 rfl (by kernel_rfl)) rfl ?_
       exact ⟨_, _, rfl, ht.1, ht.2, hp.2.1⟩
     | true =>
      go_upto_region 11 with fail
      rw [HWQ.out]
      clear x0 y0 x1 y1 x2 y2 x3 y3 x4 y4 x5 y5 x6 y6 x7 y7
      have hp0 := put1 3 (.int .i64 (q + 1)) #[.int .i64 i, .string t, .int .i64 (v + 1), .int .i64 (q + 1), .bool true, .slice B6 s6.length B6c, .slice none 0 0, .bool true] rfl HB10.out HGE.out.1 BC10.out
      have HB11 := mz hp0.2.1
      have BC11 := mz hp0.1
      have BR11 := mz (blk_one BR10.out hp0.2.2 HGE.out.2.2)
      have SB5_11 := mz (R_one SB5_10.out hp0.2.2 (by have := HLSB5.out; omega))
      have SB6_11 := mz (R_one SB6_10.out hp0.2.2 (by have := HLSB6.out; omega))
      have BE_11 := mz (blk_one BE_10.out hp0.2.2 HNBE.out)
      have Z11 := mz (Nat.le_trans (Nat.le_refl _) hp0.2.2.1)
      clear hp0
      generalize w10.setCell ⟨gc, 3, none⟩ (.int .i64 (q + 1)) = w11 at HB11 BC11 BR11  Z11  SB5_11 SB6_11 BE_11 ⊢
      obtain ⟨x0, x1, x2, x3, x4, x5, x6, x7⟩ := cells8 BC11.out
      obtain ⟨y0, y1, y2, y3, y4, y5, y6, y7⟩ := froz8 BC11.out
      go_upto_region 12 with fail
      clear x0 y0 x1 y1 x2 y2 x3 y3 x4 y4 x5 y5 x6 y6 x7 y7
      have hp0 := put1 7 (.bool false) #[.int .i64 i, .string t, .int .i64 (v + 1), .int .i64 (q + 1), .bool true, .slice B6 s6.length B6c, .slice none 0 0, .bool false] rfl HB11.out HGE.out.1 BC11.out
      have HB12 := mz hp0.2.1
      have BC12 := mz hp0.1
      have BR12 := mz (blk_one BR11.out hp0.2.2 HGE.out.2.2)
      have SB5_12 := mz (R_one SB5_11.out hp0.2.2 (by have := HLSB5.out; omega))
      have SB6_12 := mz (R_one SB6_11.out hp0.2.2 (by have := HLSB6.out; omega))
      have BE_12 := mz (blk_one BE_11.out hp0.2.2 HNBE.out)
      have Z12 := mz (Nat.le_trans (Nat.le_refl _) hp0.2.2.1)
      clear hp0
      generalize w11.setCell ⟨gc, 7, none⟩ (.bool false) = w12 at HB12 BC12 BR12  Z12  SB5_12 SB6_12 BE_12 ⊢
      have HV : Aside0 (hearV ⟨i, t, v, q, true, s5, s6, true⟩ e0 e1 op = goodC ⟨i, t, v + 1, q + 1, true, s6, [], false⟩) := ⟨by unfold hearV; rw [if_pos ⟨HC.out, HE.out⟩, if_pos HOB.out]; rfl⟩
      have Snil := mz (nilR w12 w.heap.size w12.heap.size)
      have HLSnil : Aside0 (gc < w12.heap.size) := ⟨blk_lt BC12.out⟩
      have HLRSnil : Aside0 (gr < w12.heap.size) := ⟨blk_lt BR12.out⟩
      have hcl2 := spec_l16Client_ev ⟨i, t, v + 1, q + 1, true, s6, [], false⟩ H1.out H6.out rfl
      simp only at hcl2
      obtain ⟨qb, hq⟩ : ∃ qb, clientB ⟨i, t, v + 1, q + 1, true, s6, [], false⟩ = qb := ⟨_, rfl⟩
      rw [hq] at hcl2
      have HQ := mz hq
      have HCL2 := mz hcl2
      clear hcl2 hq
      obtain ⟨x0, x1, x2, x3, x4, x5, x6, x7⟩ := cells8 BC12.out
      obtain ⟨y0, y1, y2, y3, y4, y5, y6, y7⟩ := froz8 BC12.out
      go_wp2_with fail
      clear x0 y0 x1 y1 x2 y2 x3 y3 x4 y4 x5 y5 x6 y6 x7 y7
      refine (spec_l16Client.calls i t (v + 1) (q + 1) true B6 B6c s6 none 0 ([] : List Part) false qb _ (Kd.R_reads' SB6_12.out).2.2 (Kd.R_reads' SB6_12.out).2.1 (Kd.R_reads' Snil.out).2.2 (Kd.R_reads' Snil.out).2.1 HCL2.out).mono ?_
      rintro e w13 ⟨rfl, hb⟩
      have HB13 := mz (below_step HB12.out hb)
      have BC13 := mz (blk_below BC12.out hb)
      have BR13 := mz (blk_below BR12.out hb)
      have BE_13 := mz (blk_below BE_12.out hb)
      have SB5_13 := mz (Kd.R_below SB5_12.out hb)
      have SB6_13 := mz (Kd.R_below SB6_12.out hb)
      have Snil_13 := mz (Kd.R_below Snil.out hb)
      have Z13 := mz hb.size
      clear hb
      cases qb with
      | false =>
       have hv2 := HV.out.symm.trans H0.out
       unfold goodC at hv2
       rw [HQ.out] at hv2
       simp only [Bool.false_eq_true, if_false, if_true, zeroC, Prod.mk.injEq] at hv2
       obtain ⟨rfl, rfl, rfl, rfl, rfl, rfl, rfl, rfl, rfl⟩ := hv2
       obtain ⟨u0, u1, u2, u3, u4, u5, u6, u7⟩ := cells8 BR13.out
       obtain ⟨z0, z1, z2, z3, z4, z5, z6, z7⟩ := froz8 BR13.out
       go_wp2_with fail
       have hp := put8 (.int .i64 0) (.string ⟨#[]⟩) (.int .i64 0) (.int .i64 0) (.bool false) (.slice none 0 0) (.slice none 0 0) (.bool false) HB13.out HGE.out.2.1 BR13.out
       (try simp only [Exit.inBlock, Exit.then])
       refine bodyPost_ret (results_ct rfl _ _ gr 45 _ (0, 0) _ rfl hp.1 Try.underlying45 rfl (by kernel_rfl)) rfl ?_
       exact ⟨.slice none 0 0, .slice none 0 0, rfl, Kd.R_nil _ _ _ _ _, Kd.R_nil _ _ _ _ _, hp.2.1⟩
      | true =>
       obtain ⟨x0, x1, x2, x3, x4, x5, x6, x7⟩ := cells8 BC13.out
       obtain ⟨y0, y1, y2, y3, y4, y5, y6, y7⟩ := froz8 BC13.out
       have hv2 := HV.out.symm.trans H0.out
       unfold goodC at hv2
       rw [HQ.out] at hv2
       simp only [Bool.false_eq_true, if_false, if_true, tupC, Prod.mk.injEq] at hv2
       obtain ⟨rfl, rfl, rfl, rfl, rfl, rfl, rfl, rfl, rfl⟩ := hv2
       obtain ⟨u0, u1, u2, u3, u4, u5, u6, u7⟩ := cells8 BR13.out
       obtain ⟨z0, z1, z2, z3, z4, z5, z6, z7⟩ := froz8 BR13.out
       go_wp2_with fail
       have hp := put8 (.int .i64 i) (.string t) (.int .i64 (v + 1)) (.int .i64 (q + 1)) (.bool true) (.slice B6 s6.length B6c) (.slice none 0 0) (.bool false) HB13.out HGE.out.2.1 BR13.out
       have q5 := R_one SB6_13.out hp.2.2 a32_
       have q6 := R_one Snil_13.out hp.2.2 (by have := HLSnil.out; have := HLRSnil.out; omega)
       have ht := R_two q5 q6 (.inl (by skip; have := Z6.out; have := Z7.out; have := Z8.out; have := Z9.out; have := Z10.out; have := Z11.out; have := Z12.out; omega))
       (try simp only [Exit.inBlock, Exit.then])
       refine bodyPost_ret (results_ct rfl _ _ gr 45 _ (0, 0) _ rfl hp.1 Try.underlying45 rfl (by kernel_rfl)) rfl ?_
       exact ⟨_, _, rfl, ht.1, ht.2, hp.2.1⟩
    | false =>
     have HVo : Aside0 (hearV ⟨i, t, v, q, b, s5, s6, d⟩ e0 e1 op = hearO ⟨i, t, v, q, b, s5, s6, d⟩ op) := ⟨by unfold hearV; rw [if_pos ⟨HC.out, HE.out⟩, if_neg (by rw [HOB.out]; simp)]⟩
     obtain ⟨x0, x1, x2, x3, x4, x5, x6, x7⟩ := cells8 BC7.out
     obtain ⟨y0, y1, y2, y3, y4, y5, y6, y7⟩ := froz8 BC7.out
     obtain ⟨k0, k1, k2⟩ := cells3 BE_7.out
     cases b with
     | false =>
      obtain rfl : d = false := tail_dirty HC.out
      have HVt : Aside0 (hearV ⟨i, t, v, q, false, s5, s6, false⟩ e0 e1 op = hearT ⟨i, t, v, q, false, s5, s6, false⟩ s5 s6 op) := ⟨by rw [HVo.out]; rfl⟩
      go_wp2_with fail
      clear k0 k1 k2
      obtain ⟨ka, hka⟩ := Ev.rounds (specApply_ev op t (opB_of HOP.out).1 (opB_of HOP.out).2.1)
      obtain ⟨⟨x, ok⟩, hx⟩ : ∃ p, appB op t ⟨#[]⟩ = p := ⟨_, rfl⟩
      rw [hx] at hka
      have HKA := mz hka
      have HAP : Aside0 (applyV op t = ansB (x, ok)) := ⟨by unfold applyV; rw [if_pos ⟨HOP.out, HCB.out.2.2.1⟩, hx]⟩
      clear hka hx
      clear x0 y0 x1 y1 x2 y2 x3 y3 x4 y4 x5 y5 x6 y6 x7 y7
      refine (spec_l3Apply.calls ka A1 c1 op t x ok _ (Kd.C_below G1.out HB7.out) E1.out HKA.out).mono ?_
      rintro e w8 ⟨rfl, hb⟩
      have HB8 := mz (below_step HB7.out hb)
      have BC8 := mz (blk_below BC7.out hb)
      have BR8 := mz (blk_below BR7.out hb)
      have BE_8 := mz (blk_below BE_7.out hb)
      have SB5_8 := mz (Kd.R_below SB5_7.out hb)
      have SB6_8 := mz (Kd.R_below SB6_7.out hb)
      have Z8 := mz hb.size
      clear hb
      obtain ⟨x0, x1, x2, x3, x4, x5, x6, x7⟩ := cells8 BC8.out
      obtain ⟨y0, y1, y2, y3, y4, y5, y6, y7⟩ := froz8 BC8.out
      go_upto_region 30 with fail
      clear x0 y0 x1 y1 x2 y2 x3 y3 x4 y4 x5 y5 x6 y6 x7 y7
      have hp0 := put1 1 (.string x) #[.int .i64 i, .string x, .int .i64 (v + 1), .int .i64 q, .bool false, .slice B5 s5.length B5c, .slice B6 s6.length B6c, .bool false] rfl HB8.out HGE.out.1 BC8.out
      have HB9 := mz hp0.2.1
      have BC9 := mz hp0.1
      have BR9 := mz (blk_one BR8.out hp0.2.2 HGE.out.2.2)
      have SB5_9 := mz (R_one SB5_8.out hp0.2.2 (by have := HLSB5.out; omega))
      have SB6_9 := mz (R_one SB6_8.out hp0.2.2 (by have := HLSB6.out; omega))
      have BE_9 := mz (blk_one BE_8.out hp0.2.2 HNBE.out)
      have Z9 := mz (Nat.le_trans (Nat.le_refl _) hp0.2.2.1)
      clear hp0
      generalize w8.setCell ⟨gc, 1, none⟩ (.string x) = w9 at HB9 BC9 BR9  Z9  SB5_9 SB6_9 BE_9 ⊢
      cases ok with
      | false =>
       have hv : hearV ⟨i, t, v, q, false, s5, s6, false⟩ e0 e1 op = zeroC := by rw [HVt.out]; unfold hearT; simp only [HAP.out]; rfl
       have h0 := H0.out
       rw [hv] at h0
       simp only [zeroC, Prod.mk.injEq] at h0
       obtain ⟨rfl, rfl, rfl, rfl, rfl, rfl, rfl, rfl, rfl⟩ := h0
       clear hv
       obtain ⟨u0, u1, u2, u3, u4, u5, u6, u7⟩ := cells8 BR9.out
       obtain ⟨z0, z1, z2, z3, z4, z5, z6, z7⟩ := froz8 BR9.out
       go_wp2_with fail
       have hp := put8 (.int .i64 0) (.string ⟨#[]⟩) (.int .i64 0) (.int .i64 0) (.bool false) (.slice none 0 0) (.slice none 0 0) (.bool false) HB9.out HGE.out.2.1 BR9.out
       (try simp only [Exit.inBlock, Exit.then])
       refine bodyPost_ret (results_ct rfl _ _ gr 45 _ (0, 0) _ rfl hp.1 Try.underlying45 rfl (by kernel_rfl)) rfl ?_
       exact ⟨.slice none 0 0, .slice none 0 0, rfl, Kd.R_nil _ _ _ _ _, Kd.R_nil _ _ _ _ _, hp.2.1⟩
      | true =>
       have HAP2 : Aside0 (applyV op t = (x, true)) := ⟨HAP.out⟩
       have HXS : Aside0 (x.size ≤ maxLen) := ⟨by have h := applyV_size op t; rw [HAP2.out] at h; simp only at h; unfold maxLen; omega⟩
       have HV : Aside0 (hearV ⟨i, t, v, q, false, s5, s6, false⟩ e0 e1 op = goodC ⟨i, x, v + 1, q, false, s5, s6, false⟩) := ⟨by rw [HVt.out]; unfold hearT; simp only [HAP2.out]; rfl⟩
       have hcl2 := spec_l16Client_ev ⟨i, x, v + 1, q, false, s5, s6, false⟩ HXS.out H5.out H6.out
       simp only at hcl2
       obtain ⟨qb, hq⟩ : ∃ qb, clientB ⟨i, x, v + 1, q, false, s5, s6, false⟩ = qb := ⟨_, rfl⟩
       rw [hq] at hcl2
       have HQ := mz hq
       have HCL2 := mz hcl2
       clear hcl2 hq
       obtain ⟨x0, x1, x2, x3, x4, x5, x6, x7⟩ := cells8 BC9.out
       obtain ⟨y0, y1, y2, y3, y4, y5, y6, y7⟩ := froz8 BC9.out
       go_wp2_with fail
       clear x0 y0 x1 y1 x2 y2 x3 y3 x4 y4 x5 y5 x6 y6 x7 y7
       refine (spec_l16Client.calls i x (v + 1) q false B5 B5c s5 B6 B6c s6 false qb _ (Kd.R_reads' SB5_9.out).2.2 (Kd.R_reads' SB5_9.out).2.1 (Kd.R_reads' SB6_9.out).2.2 (Kd.R_reads' SB6_9.out).2.1 HCL2.out).mono ?_
       rintro e w10 ⟨rfl, hb⟩
       have HB10 := mz (below_step HB9.out hb)
       have BC10 := mz (blk_below BC9.out hb)
       have BR10 := mz (blk_below BR9.out hb)
       have BE_10 := mz (blk_below BE_9.out hb)
       have SB5_10 := mz (Kd.R_below SB5_9.out hb)
       have SB6_10 := mz (Kd.R_below SB6_9.out hb)
       have Z10 := mz hb.size
       clear hb
       cases qb with
       | false =>
        have hv2 := HV.out.symm.trans H0.out
        unfold goodC at hv2
        rw [HQ.out] at hv2
        simp only [Bool.false_eq_true, if_false, if_true, zeroC, Prod.mk.injEq] at hv2
        obtain ⟨rfl, rfl, rfl, rfl, rfl, rfl, rfl, rfl, rfl⟩ := hv2
        obtain ⟨u0, u1, u2, u3, u4, u5, u6, u7⟩ := cells8 BR10.out
        obtain ⟨z0, z1, z2, z3, z4, z5, z6, z7⟩ := froz8 BR10.out
        go_wp2_with fail
        have hp := put8 (.int .i64 0) (.string ⟨#[]⟩) (.int .i64 0) (.int .i64 0) (.bool false) (.slice none 0 0) (.slice none 0 0) (.bool false) HB10.out HGE.out.2.1 BR10.out
        (try simp only [Exit.inBlock, Exit.then])
        refine bodyPost_ret (results_ct rfl _ _ gr 45 _ (0, 0) _ rfl hp.1 Try.underlying45 rfl (by kernel_rfl)) rfl ?_
        exact ⟨.slice none 0 0, .slice none 0 0, rfl, Kd.R_nil _ _ _ _ _, Kd.R_nil _ _ _ _ _, hp.2.1⟩
       | true =>
        obtain ⟨x0, x1, x2, x3, x4, x5, x6, x7⟩ := cells8 BC10.out
        obtain ⟨y0, y1, y2, y3, y4, y5, y6, y7⟩ := froz8 BC10.out
        have hv2 := HV.out.symm.trans H0.out
        unfold goodC at hv2
        rw [HQ.out] at hv2
        simp only [Bool.false_eq_true, if_false, if_true, tupC, Prod.mk.injEq] at hv2
        obtain ⟨rfl, rfl, rfl, rfl, rfl, rfl, rfl, rfl, rfl⟩ := hv2
        obtain ⟨u0, u1, u2, u3, u4, u5, u6, u7⟩ := cells8 BR10.out
        obtain ⟨z0, z1, z2, z3, z4, z5, z6, z7⟩ := froz8 BR10.out
        go_wp2_with fail
        have hp := put8 (.int .i64 i) (.string x) (.int .i64 (v + 1)) (.int .i64 q) (.bool false) (.slice B5 s5.length B5c) (.slice B6 s6.length B6c) (.bool false) HB10.out HGE.out.2.1 BR10.out
        have q5 := R_one SB5_10.out hp.2.2 (by have := HLSB5.out; have := HLRSB5.out; omega)
        have q6 := R_one SB6_10.out hp.2.2 a32_
        have ht := R_twoD q5 q6 HD56.out
        (try simp only [Exit.inBlock, Exit.then])
        refine bodyPost_ret (results_ct rfl _ _ gr 45 _ (0, 0) _ rfl hp.1 Try.underlying45 rfl (by kernel_rfl)) rfl ?_
        exact ⟨_, _, rfl, ht.1, ht.2, hp.2.1⟩
     | true =>
      go_wp2_with fail
      clear k0 k1 k2
      obtain ⟨kt1, hkt⟩ := Ev.rounds (specTransform_ev s5 op H5.out HO.out)
      have hz := @trV_sized s5 op
      have hg := @trV_good s5 op
      obtain ⟨⟨px1, py1, tk1⟩, hx⟩ : ∃ p, trV s5 op = p := ⟨_, rfl⟩
      rw [hx] at hkt hz hg
      simp only at hz hg
      have HKT1 := mz hkt
      have HTV1 := mz hx
      have HZ1 := mz hz
      have HGD1 := mz hg
      clear hkt hz hg hx
      clear x0 y0 x1 y1 x2 y2 x3 y3 x4 y4 x5 y5 x6 y6 x7 y7
      refine (spec_TransformOps.calls kt1 B5 B5c s5 A1 c1 op px1 py1 tk1 _ (Kd.R_reads' SB5_7.out).2.2 (Kd.R_reads' SB5_7.out).2.1 (Kd.C_below G1.out HB7.out) E1.out HKT1.out).mono ?_
      rintro e w8 ⟨vx, vy, rfl, hRx, hRy, hb⟩
      have HB8 := mz (below_step HB7.out hb)
      have BC8 := mz (blk_below BC7.out hb)
      have BR8 := mz (blk_below BR7.out hb)
      have BE_8 := mz (blk_below BE_7.out hb)
      have SB5_8 := mz (Kd.R_below SB5_7.out hb)
      have SB6_8 := mz (Kd.R_below SB6_7.out hb)
      have Z8 := mz hb.size
      clear hb
      obtain ⟨X1, X1c, eo⟩ := Kd.R_slice hRx
      subst eo
      have SX1 := mz (R_new hRx HB7.out.size)
      have HLSX1 : Aside0 (gc < w7.heap.size) := ⟨blk_lt BC7.out⟩
      have HLRSX1 : Aside0 (gr < w7.heap.size) := ⟨blk_lt BR7.out⟩
      clear hRx
      obtain ⟨Y1, Y1c, eo⟩ := Kd.R_slice hRy
      subst eo
      have SY1 := mz (R_new hRy HB7.out.size)
      have HLSY1 : Aside0 (gc < w7.heap.size) := ⟨blk_lt BC7.out⟩
      have HLRSY1 : Aside0 (gr < w7.heap.size) := ⟨blk_lt BR7.out⟩
      clear hRy
      cases tk1 with
      | false =>
       have hv : hearV ⟨i, t, v, q, true, s5, s6, d⟩ e0 e1 op = zeroC := by rw [HVo.out]; unfold hearO; simp only [if_true, HTV1.out]; rfl
       have h0 := H0.out
       rw [hv] at h0
       simp only [zeroC, Prod.mk.injEq] at h0
       obtain ⟨rfl, rfl, rfl, rfl, rfl, rfl, rfl, rfl, rfl⟩ := h0
       clear hv
       obtain ⟨u0, u1, u2, u3, u4, u5, u6, u7⟩ := cells8 BR8.out
       obtain ⟨z0, z1, z2, z3, z4, z5, z6, z7⟩ := froz8 BR8.out
       go_wp2_with fail
       have hp := put8 (.int .i64 0) (.string ⟨#[]⟩) (.int .i64 0) (.int .i64 0) (.bool false) (.slice none 0 0) (.slice none 0 0) (.bool false) HB8.out HGE.out.2.1 BR8.out
       (try simp only [Exit.inBlock, Exit.then])
       refine bodyPost_ret (results_ct rfl _ _ gr 45 _ (0, 0) _ rfl hp.1 Try.underlying45 rfl (by kernel_rfl)) rfl ?_
       exact ⟨.slice none 0 0, .slice none 0 0, rfl, Kd.R_nil _ _ _ _ _, Kd.R_nil _ _ _ _ _, hp.2.1⟩
      | true =>
       have HVd : Aside0 (hearV ⟨i, t, v, q, true, s5, s6, d⟩ e0 e1 op = hearD ⟨i, t, v, q, true, s5, s6, d⟩ px1 py1) := ⟨by rw [HVo.out]; unfold hearO; simp only [if_true, HTV1.out]⟩
       obtain ⟨x0, x1, x2, x3, x4, x5, x6, x7⟩ := cells8 BC8.out
       obtain ⟨y0, y1, y2, y3, y4, y5, y6, y7⟩ := froz8 BC8.out
       go_upto_region 21 with fail
       clear x0 y0 x1 y1 x2 y2 x3 y3 x4 y4 x5 y5 x6 y6 x7 y7
       have hp0 := put1 5 (.slice X1 px1.length X1c) #[.int .i64 i, .string t, .int .i64 (v + 1), .int .i64 q, .bool true, .slice X1 px1.length X1c, .slice B6 s6.length B6c, .bool d] rfl HB8.out HGE.out.1 BC8.out
       have HB9 := mz hp0.2.1
       have BC9 := mz hp0.1
       have BR9 := mz (blk_one BR8.out hp0.2.2 HGE.out.2.2)
       have SB5_9 := mz (R_one SB5_8.out hp0.2.2 (by have := HLSB5.out; omega))
       have SB6_9 := mz (R_one SB6_8.out hp0.2.2 (by have := HLSB6.out; omega))
       have SX1_9 := mz (R_one SX1.out hp0.2.2 (by have := HLSX1.out; omega))
       have SY1_9 := mz (R_one SY1.out hp0.2.2 (by have := HLSY1.out; omega))
       have BE_9 := mz (blk_one BE_8.out hp0.2.2 HNBE.out)
       have Z9 := mz (Nat.le_trans (Nat.le_refl _) hp0.2.2.1)
       clear hp0
       generalize w8.setCell ⟨gc, 5, none⟩ (.slice X1 px1.length X1c) = w9 at HB9 BC9 BR9  Z9  SB5_9 SB6_9 SX1_9 SY1_9 BE_9 ⊢
       obtain ⟨x0, x1, x2, x3, x4, x5, x6, x7⟩ := cells8 BC9.out
       obtain ⟨y0, y1, y2, y3, y4, y5, y6, y7⟩ := froz8 BC9.out
       cases d with
       | false =>
        go_wp2_with fail
        have HVt : Aside0 (hearV ⟨i, t, v, q, true, s5, s6, false⟩ e0 e1 op = hearT ⟨i, t, v, q, true, s5, s6, false⟩ px1 s6 py1) := ⟨by rw [HVd.out]; rfl⟩
        have HOP1 : Aside0 (opB py1 = true) := ⟨(HGD1.out (by trivial)).2⟩
        obtain ⟨ka, hka⟩ := Ev.rounds (specApply_ev py1 t (opB_of HOP1.out).1 (opB_of HOP1.out).2.1)
        obtain ⟨⟨x, ok⟩, hx⟩ : ∃ p, appB py1 t ⟨#[]⟩ = p := ⟨_, rfl⟩
        rw [hx] at hka
        have HKA := mz hka
        have HAP : Aside0 (applyV py1 t = ansB (x, ok)) := ⟨by unfold applyV; rw [if_pos ⟨HOP1.out, HCB.out.2.2.1⟩, hx]⟩
        clear hka hx
        clear x0 y0 x1 y1 x2 y2 x3 y3 x4 y4 x5 y5 x6 y6 x7 y7
        refine (spec_l3Apply.calls ka Y1 Y1c py1 t x ok _ (Kd.R_reads' SY1_9.out).2.2 (Kd.R_reads' SY1_9.out).2.1 HKA.out).mono ?_
        rintro e w10 ⟨rfl, hb⟩
        have HB10 := mz (below_step HB9.out hb)
        have BC10 := mz (blk_below BC9.out hb)
        have BR10 := mz (blk_below BR9.out hb)
        have BE_10 := mz (blk_below BE_9.out hb)
        have SB5_10 := mz (Kd.R_below SB5_9.out hb)
        have SB6_10 := mz (Kd.R_below SB6_9.out hb)
        have SX1_10 := mz (Kd.R_below SX1_9.out hb)
        have SY1_10 := mz (Kd.R_below SY1_9.out hb)
        have Z10 := mz hb.size
        clear hb
        obtain ⟨x0, x1, x2, x3, x4, x5, x6, x7⟩ := cells8 BC10.out
        obtain ⟨y0, y1, y2, y3, y4, y5, y6, y7⟩ := froz8 BC10.out
        go_upto_region 30 with fail
        clear x0 y0 x1 y1 x2 y2 x3 y3 x4 y4 x5 y5 x6 y6 x7 y7
        have hp0 := put1 1 (.string x) #[.int .i64 i, .string x, .int .i64 (v + 1), .int .i64 q, .bool true, .slice X1 px1.length X1c, .slice B6 s6.length B6c, .bool false] rfl HB10.out HGE.out.1 BC10.out
        have HB11 := mz hp0.2.1
        have BC11 := mz hp0.1
        have BR11 := mz (blk_one BR10.out hp0.2.2 HGE.out.2.2)
        have SB5_11 := mz (R_one SB5_10.out hp0.2.2 (by have := HLSB5.out; omega))
        have SB6_11 := mz (R_one SB6_10.out hp0.2.2 (by have := HLSB6.out; omega))
        have SX1_11 := mz (R_one SX1_10.out hp0.2.2 (by have := HLSX1.out; omega))
        have SY1_11 := mz (R_one SY1_10.out hp0.2.2 (by have := HLSY1.out; omega))
        have BE_11 := mz (blk_one BE_10.out hp0.2.2 HNBE.out)
        have Z11 := mz (Nat.le_trans (Nat.le_refl _) hp0.2.2.1)
        clear hp0
        generalize w10.setCell ⟨gc, 1, none⟩ (.string x) = w11 at HB11 BC11 BR11  Z11  SB5_11 SB6_11 SX1_11 SY1_11 BE_11 ⊢
        cases ok with
        | false =>
         have hv : hearV ⟨i, t, v, q, true, s5, s6, false⟩ e0 e1 op = zeroC := by rw [HVt.out]; unfold hearT; simp only [HAP.out]; rfl
         have h0 := H0.out
         rw [hv] at h0
         simp only [zeroC, Prod.mk.injEq] at h0
         obtain ⟨rfl, rfl, rfl, rfl, rfl, rfl, rfl, rfl, rfl⟩ := h0
         clear hv
         obtain ⟨u0, u1, u2, u3, u4, u5, u6, u7⟩ := cells8 BR11.out
         obtain ⟨z0, z1, z2, z3, z4, z5, z6, z7⟩ := froz8 BR11.out
         go_wp2_with fail
         have hp := put8 (.int .i64 0) (.string ⟨#[]⟩) (.int .i64 0) (.int .i64 0) (.bool false) (.slice none 0 0) (.slice none 0 0) (.bool false) HB11.out HGE.out.2.1 BR11.out
         (try simp only [Exit.inBlock, Exit.then])
         refine bodyPost_ret (results_ct rfl _ _ gr 45 _ (0, 0) _ rfl hp.1 Try.underlying45 rfl (by kernel_rfl)) rfl ?_
         exact ⟨.slice none 0 0, .slice none 0 0, rfl, Kd.R_nil _ _ _ _ _, Kd.R_nil _ _ _ _ _, hp.2.1⟩
        | true =>
         have HAP2 : Aside0 (applyV py1 t = (x, true)) := ⟨HAP.out⟩
         have HXS : Aside0 (x.size ≤ maxLen) := ⟨by have h := applyV_size py1 t; rw [HAP2.out] at h; simp only at h; unfold maxLen; omega⟩
         have HV : Aside0 (hearV ⟨i, t, v, q, true, s5, s6, false⟩ e0 e1 op = goodC ⟨i, x, v + 1, q, true, px1, s6, false⟩) := ⟨by rw [HVt.out]; unfold hearT; simp only [HAP2.out]; rfl⟩
         have hcl2 := spec_l16Client_ev ⟨i, x, v + 1, q, true, px1, s6, false⟩ HXS.out HZ1.out.1 H6.out
         simp only at hcl2
         obtain ⟨qb, hq⟩ : ∃ qb, clientB ⟨i, x, v + 1, q, true, px1, s6, false⟩ = qb := ⟨_, rfl⟩
         rw [hq] at hcl2
         have HQ := mz hq
         have HCL2 := mz hcl2
         clear hcl2 hq
         obtain ⟨x0, x1, x2, x3, x4, x5, x6, x7⟩ := cells8 BC11.out
         obtain ⟨y0, y1, y2, y3, y4, y5, y6, y7⟩ := froz8 BC11.out
         go_wp2_with fail
         clear x0 y0 x1 y1 x2 y2 x3 y3 x4 y4 x5 y5 x6 y6 x7 y7
         refine (spec_l16Client.calls i x (v + 1) q true X1 X1c px1 B6 B6c s6 false qb _ (Kd.R_reads' SX1_11.out).2.2 (Kd.R_reads' SX1_11.out).2.1 (Kd.R_reads' SB6_11.out).2.2 (Kd.R_reads' SB6_11.out).2.1 HCL2.out).mono ?_
         rintro e w12 ⟨rfl, hb⟩
         have HB12 := mz (below_step HB11.out hb)
         have BC12 := mz (blk_below BC11.out hb)
         have BR12 := mz (blk_below BR11.out hb)
         have BE_12 := mz (blk_below BE_11.out hb)
         have SB5_12 := mz (Kd.R_below SB5_11.out hb)
         have SB6_12 := mz (Kd.R_below SB6_11.out hb)
         have SX1_12 := mz (Kd.R_below SX1_11.out hb)
         have SY1_12 := mz (Kd.R_below SY1_11.out hb)
         have Z12 := mz hb.size
         clear hb
         cases qb with
         | false =>
          have hv2 := HV.out.symm.trans H0.out
          unfold goodC at hv2
          rw [HQ.out] at hv2
          simp only [Bool.false_eq_true, if_false, if_true, zeroC, Prod.mk.injEq] at hv2
          obtain ⟨rfl, rfl, rfl, rfl, rfl, rfl, rfl, rfl, rfl⟩ := hv2
          obtain ⟨u0, u1, u2, u3, u4, u5, u6, u7⟩ := cells8 BR12.out
          obtain ⟨z0, z1, z2, z3, z4, z5, z6, z7⟩ := froz8 BR12.out
          go_wp2_with fail
          have hp := put8 (.int .i64 0) (.string ⟨#[]⟩) (.int .i64 0) (.int .i64 0) (.bool false) (.slice none 0 0) (.slice none 0 0) (.bool false) HB12.out HGE.out.2.1 BR12.out
          (try simp only [Exit.inBlock, Exit.then])
          refine bodyPost_ret (results_ct rfl _ _ gr 45 _ (0, 0) _ rfl hp.1 Try.underlying45 rfl (by kernel_rfl)) rfl ?_
          exact ⟨.slice none 0 0, .slice none 0 0, rfl, Kd.R_nil _ _ _ _ _, Kd.R_nil _ _ _ _ _, hp.2.1⟩
         | true =>
          obtain ⟨x0, x1, x2, x3, x4, x5, x6, x7⟩ := cells8 BC12.out
          obtain ⟨y0, y1, y2, y3, y4, y5, y6, y7⟩ := froz8 BC12.out
          have hv2 := HV.out.symm.trans H0.out
          unfold goodC at hv2
          rw [HQ.out] at hv2
          simp only [Bool.false_eq_true, if_false, if_true, tupC, Prod.mk.injEq] at hv2
          obtain ⟨rfl, rfl, rfl, rfl, rfl, rfl, rfl, rfl, rfl⟩ := hv2
          obtain ⟨u0, u1, u2, u3, u4, u5, u6, u7⟩ := cells8 BR12.out
          obtain ⟨z0, z1, z2, z3, z4, z5, z6, z7⟩ := froz8 BR12.out
          go_wp2_with fail
          have hp := put8 (.int .i64 i) (.string x) (.int .i64 (v + 1)) (.int .i64 q) (.bool true) (.slice X1 px1.length X1c) (.slice B6 s6.length B6c) (.bool false) HB12.out HGE.out.2.1 BR12.out
          have q5 := R_one SX1_12.out hp.2.2 (by have := HLSX1.out; have := HLRSX1.out; omega)
          have q6 := R_one SB6_12.out hp.2.2 a32_
          have ht := R_two q5 q6 (.inr (by skip; have := Z6.out; have := Z7.out; omega))
          (try simp only [Exit.inBlock, Exit.then])
          refine bodyPost_ret (results_ct rfl _ _ gr 45 _ (0, 0) _ rfl hp.1 Try.underlying45 rfl (by kernel_rfl)) rfl ?_
          exact ⟨_, _, rfl, ht.1, ht.2, hp.2.1⟩
       | true =>
        go_wp2_with fail
        obtain ⟨kt2, hkt⟩ := Ev.rounds (specTransform_ev s6 py1 H6.out HZ1.out.2)
        have hz := @trV_sized s6 py1
        have hg := @trV_good s6 py1
        obtain ⟨⟨px2, py2, tk2⟩, hx⟩ : ∃ p, trV s6 py1 = p := ⟨_, rfl⟩
        rw [hx] at hkt hz hg
        simp only at hz hg
        have HKT2 := mz hkt
        have HTV2 := mz hx
        have HZ2 := mz hz
        have HGD2 := mz hg
        clear hkt hz hg hx
        clear x0 y0 x1 y1 x2 y2 x3 y3 x4 y4 x5 y5 x6 y6 x7 y7
        refine (spec_TransformOps.calls kt2 B6 B6c s6 Y1 Y1c py1 px2 py2 tk2 _ (Kd.R_reads' SB6_9.out).2.2 (Kd.R_reads' SB6_9.out).2.1 (Kd.R_reads' SY1_9.out).2.2 (Kd.R_reads' SY1_9.out).2.1 HKT2.out).mono ?_
        rintro e w10 ⟨vx, vy, rfl, hRx, hRy, hb⟩
        have HB10 := mz (below_step HB9.out hb)
        have BC10 := mz (blk_below BC9.out hb)
        have BR10 := mz (blk_below BR9.out hb)
        have BE_10 := mz (blk_below BE_9.out hb)
        have SB5_10 := mz (Kd.R_below SB5_9.out hb)
        have SB6_10 := mz (Kd.R_below SB6_9.out hb)
        have SX1_10 := mz (Kd.R_below SX1_9.out hb)
        have SY1_10 := mz (Kd.R_below SY1_9.out hb)
        have Z10 := mz hb.size
        clear hb
        obtain ⟨X2, X2c, eo⟩ := Kd.R_slice hRx
        subst eo
        have SX2 := mz (R_new hRx HB9.out.size)
        have HLSX2 : Aside0 (gc < w9.heap.size) := ⟨blk_lt BC9.out⟩
        have HLRSX2 : Aside0 (gr < w9.heap.size) := ⟨blk_lt BR9.out⟩
        clear hRx
        obtain ⟨Y2, Y2c, eo⟩ := Kd.R_slice hRy
        subst eo
        have SY2 := mz (R_new hRy HB9.out.size)
        have HLSY2 : Aside0 (gc < w9.heap.size) := ⟨blk_lt BC9.out⟩
        have HLRSY2 : Aside0 (gr < w9.heap.size) := ⟨blk_lt BR9.out⟩
        clear hRy
        cases tk2 with
        | false =>
         have hv : hearV ⟨i, t, v, q, true, s5, s6, true⟩ e0 e1 op = zeroC := by rw [HVd.out]; unfold hearD; simp only [if_true, HTV2.out]; rfl
         have h0 := H0.out
         rw [hv] at h0
         simp only [zeroC, Prod.mk.injEq] at h0
         obtain ⟨rfl, rfl, rfl, rfl, rfl, rfl, rfl, rfl, rfl⟩ := h0
         clear hv
         obtain ⟨u0, u1, u2, u3, u4, u5, u6, u7⟩ := cells8 BR10.out
         obtain ⟨z0, z1, z2, z3, z4, z5, z6, z7⟩ := froz8 BR10.out
         go_wp2_with fail
         have hp := put8 (.int .i64 0) (.string ⟨#[]⟩) (.int .i64 0) (.int .i64 0) (.bool false) (.slice none 0 0) (.slice none 0 0) (.bool false) HB10.out HGE.out.2.1 BR10.out
         (try simp only [Exit.inBlock, Exit.then])
         refine bodyPost_ret (results_ct rfl _ _ gr 45 _ (0, 0) _ rfl hp.1 Try.underlying45 rfl (by kernel_rfl)) rfl ?_
         exact ⟨.slice none 0 0, .slice none 0 0, rfl, Kd.R_nil _ _ _ _ _, Kd.R_nil _ _ _ _ _, hp.2.1⟩
        | true =>
         have HVt : Aside0 (hearV ⟨i, t, v, q, true, s5, s6, true⟩ e0 e1 op = hearT ⟨i, t, v, q, true, s5, s6, true⟩ px1 px2 py2) := ⟨by rw [HVd.out]; unfold hearD; simp only [if_true, HTV2.out]⟩
         have HOP2 : Aside0 (opB py2 = true) := ⟨(HGD2.out (by trivial)).2⟩
         obtain ⟨x0, x1, x2, x3, x4, x5, x6, x7⟩ := cells8 BC10.out
         obtain ⟨y0, y1, y2, y3, y4, y5, y6, y7⟩ := froz8 BC10.out
         go_upto_region 27 with fail
         clear x0 y0 x1 y1 x2 y2 x3 y3 x4 y4 x5 y5 x6 y6 x7 y7
         have hp0 := put1 6 (.slice X2 px2.length X2c) #[.int .i64 i, .string t, .int .i64 (v + 1), .int .i64 q, .bool true, .slice X1 px1.length X1c, .slice X2 px2.length X2c, .bool true] rfl HB10.out HGE.out.1 BC10.out
         have HB11 := mz hp0.2.1
         have BC11 := mz hp0.1
         have BR11 := mz (blk_one BR10.out hp0.2.2 HGE.out.2.2)
         have SB5_11 := mz (R_one SB5_10.out hp0.2.2 (by have := HLSB5.out; omega))
         have SB6_11 := mz (R_one SB6_10.out hp0.2.2 (by have := HLSB6.out; omega))
         have SX1_11 := mz (R_one SX1_10.out hp0.2.2 (by have := HLSX1.out; omega))
         have SY1_11 := mz (R_one SY1_10.out hp0.2.2 (by have := HLSY1.out; omega))
         have SX2_11 := mz (R_one SX2.out hp0.2.2 (by have := HLSX2.out; omega))
         have SY2_11 := mz (R_one SY2.out hp0.2.2 (by have := HLSY2.out; omega))
         have BE_11 := mz (blk_one BE_10.out hp0.2.2 HNBE.out)
         have Z11 := mz (Nat.le_trans (Nat.le_refl _) hp0.2.2.1)
         clear hp0
         generalize w10.setCell ⟨gc, 6, none⟩ (.slice X2 px2.length X2c) = w11 at HB11 BC11 BR11  Z11  SB5_11 SB6_11 SX1_11 SY1_11 SX2_11 SY2_11 BE_11 ⊢
         obtain ⟨x0, x1, x2, x3, x4, x5, x6, x7⟩ := cells8 BC11.out
         obtain ⟨y0, y1, y2, y3, y4, y5, y6, y7⟩ := froz8 BC11.out
         go_wp2_with fail
         obtain ⟨ka, hka⟩ := Ev.rounds (specApply_ev py2 t (opB_of HOP2.out).1 (opB_of HOP2.out).2.1)
         obtain ⟨⟨x, ok⟩, hx⟩ : ∃ p, appB py2 t ⟨#[]⟩ = p := ⟨_, rfl⟩
         rw [hx] at hka
         have HKA := mz hka
         have HAP : Aside0 (applyV py2 t = ansB (x, ok)) := ⟨by unfold applyV; rw [if_pos ⟨HOP2.out, HCB.out.2.2.1⟩, hx]⟩
         clear hka hx
         clear x0 y0 x1 y1 x2 y2 x3 y3 x4 y4 x5 y5 x6 y6 x7 y7
         refine (spec_l3Apply.calls ka Y2 Y2c py2 t x ok _ (Kd.R_reads' SY2_11.out).2.2 (Kd.R_reads' SY2_11.out).2.1 HKA.out).mono ?_
         rintro e w12 ⟨rfl, hb⟩
         have HB12 := mz (below_step HB11.out hb)
         have BC12 := mz (blk_below BC11.out hb)
         have BR12 := mz (blk_below BR11.out hb)
         have BE_12 := mz (blk_below BE_11.out hb)
         have SB5_12 := mz (Kd.R_below SB5_11.out hb)
         have SB6_12 := mz (Kd.R_below SB6_11.out hb)
         have SX1_12 := mz (Kd.R_below SX1_11.out hb)
         have SY1_12 := mz (Kd.R_below SY1_11.out hb)
         have SX2_12 := mz (Kd.R_below SX2_11.out hb)
         have SY2_12 := mz (Kd.R_below SY2_11.out hb)
         have Z12 := mz hb.size
         clear hb
         obtain ⟨x0, x1, x2, x3, x4, x5, x6, x7⟩ := cells8 BC12.out
         obtain ⟨y0, y1, y2, y3, y4, y5, y6, y7⟩ := froz8 BC12.out
         go_upto_region 30 with fail
         clear x0 y0 x1 y1 x2 y2 x3 y3 x4 y4 x5 y5 x6 y6 x7 y7
         have hp0 := put1 1 (.string x) #[.int .i64 i, .string x, .int .i64 (v + 1), .int .i64 q, .bool true, .slice X1 px1.length X1c, .slice X2 px2.length X2c, .bool true] rfl HB12.out HGE.out.1 BC12.out
         have HB13 := mz hp0.2.1
         have BC13 := mz hp0.1
         have BR13 := mz (blk_one BR12.out hp0.2.2 HGE.out.2.2)
         have SB5_13 := mz (R_one SB5_12.out hp0.2.2 (by have := HLSB5.out; omega))
         have SB6_13 := mz (R_one SB6_12.out hp0.2.2 (by have := HLSB6.out; omega))
         have SX1_13 := mz (R_one SX1_12.out hp0.2.2 (by have := HLSX1.out; omega))
         have SY1_13 := mz (R_one SY1_12.out hp0.2.2 (by have := HLSY1.out; omega))
         have SX2_13 := mz (R_one SX2_12.out hp0.2.2 (by have := HLSX2.out; omega))
         have SY2_13 := mz (R_one SY2_12.out hp0.2.2 (by have := HLSY2.out; omega))
         have BE_13 := mz (blk_one BE_12.out hp0.2.2 HNBE.out)
         have Z13 := mz (Nat.le_trans (Nat.le_refl _) hp0.2.2.1)
         clear hp0
         generalize w12.setCell ⟨gc, 1, none⟩ (.string x) = w13 at HB13 BC13 BR13  Z13  SB5_13 SB6_13 SX1_13 SY1_13 SX2_13 SY2_13 BE_13 ⊢
         cases ok with
         | false =>
          have hv : hearV ⟨i, t, v, q, true, s5, s6, true⟩ e0 e1 op = zeroC := by rw [HVt.out]; unfold hearT; simp only [HAP.out]; rfl
          have h0 := H0.out
          rw [hv] at h0
          simp only [zeroC, Prod.mk.injEq] at h0
          obtain ⟨rfl, rfl, rfl, rfl, rfl, rfl, rfl, rfl, rfl⟩ := h0
          clear hv
          obtain ⟨u0, u1, u2, u3, u4, u5, u6, u7⟩ := cells8 BR13.out
          obtain ⟨z0, z1, z2, z3, z4, z5, z6, z7⟩ := froz8 BR13.out
          go_wp2_with fail
          have hp := put8 (.int .i64 0) (.string ⟨#[]⟩) (.int .i64 0) (.int .i64 0) (.bool false) (.slice none 0 0) (.slice none 0 0) (.bool false) HB13.out HGE.out.2.1 BR13.out
          (try simp only [Exit.inBlock, Exit.then])
          refine bodyPost_ret (results_ct rfl _ _ gr 45 _ (0, 0) _ rfl hp.1 Try.underlying45 rfl (by kernel_rfl)) rfl ?_
          exact ⟨.slice none 0 0, .slice none 0 0, rfl, Kd.R_nil _ _ _ _ _, Kd.R_nil _ _ _ _ _, hp.2.1⟩
         | true =>
          have HAP2 : Aside0 (applyV py2 t = (x, true)) := ⟨HAP.out⟩
          have HXS : Aside0 (x.size ≤ maxLen) := ⟨by have h := applyV_size py2 t; rw [HAP2.out] at h; simp only at h; unfold maxLen; omega⟩
          have HV : Aside0 (hearV ⟨i, t, v, q, true, s5, s6, true⟩ e0 e1 op = goodC ⟨i, x, v + 1, q, true, px1, px2, true⟩) := ⟨by rw [HVt.out]; unfold hearT; simp only [HAP2.out]; rfl⟩
          have hcl2 := spec_l16Client_ev ⟨i, x, v + 1, q, true, px1, px2, true⟩ HXS.out HZ1.out.1 HZ2.out.1
          simp only at hcl2
          obtain ⟨qb, hq⟩ : ∃ qb, clientB ⟨i, x, v + 1, q, true, px1, px2, true⟩ = qb := ⟨_, rfl⟩
          rw [hq] at hcl2
          have HQ := mz hq
          have HCL2 := mz hcl2
          clear hcl2 hq
          obtain ⟨x0, x1, x2, x3, x4, x5, x6, x7⟩ := cells8 BC13.out
          obtain ⟨y0, y1, y2, y3, y4, y5, y6, y7⟩ := froz8 BC13.out
          go_wp2_with fail
          clear x0 y0 x1 y1 x2 y2 x3 y3 x4 y4 x5 y5 x6 y6 x7 y7
          refine (spec_l16Client.calls i x (v + 1) q true X1 X1c px1 X2 X2c px2 true qb _ (Kd.R_reads' SX1_13.out).2.2 (Kd.R_reads' SX1_13.out).2.1 (Kd.R_reads' SX2_13.out).2.2 (Kd.R_reads' SX2_13.out).2.1 HCL2.out).mono ?_
          rintro e w14 ⟨rfl, hb⟩
          have HB14 := mz (below_step HB13.out hb)
          have BC14 := mz (blk_below BC13.out hb)
          have BR14 := mz (blk_below BR13.out hb)
          have BE_14 := mz (blk_below BE_13.out hb)
          have SB5_14 := mz (Kd.R_below SB5_13.out hb)
          have SB6_14 := mz (Kd.R_below SB6_13.out hb)
          have SX1_14 := mz (Kd.R_below SX1_13.out hb)
          have SY1_14 := mz (Kd.R_below SY1_13.out hb)
          have SX2_14 := mz (Kd.R_below SX2_13.out hb)
          have SY2_14 := mz (Kd.R_below SY2_13.out hb)
          have Z14 := mz hb.size
          clear hb
          cases qb with
          | false =>
           have hv2 := HV.out.symm.trans H0.out
           unfold goodC at hv2
           rw [HQ.out] at hv2
           simp only [Bool.false_eq_true, if_false, if_true, zeroC, Prod.mk.injEq] at hv2
           obtain ⟨rfl, rfl, rfl, rfl, rfl, rfl, rfl, rfl, rfl⟩ := hv2
           obtain ⟨u0, u1, u2, u3, u4, u5, u6, u7⟩ := cells8 BR14.out
           obtain ⟨z0, z1, z2, z3, z4, z5, z6, z7⟩ := froz8 BR14.out
           go_wp2_with fail
           have hp := put8 (.int .i64 0) (.string ⟨#[]⟩) (.int .i64 0) (.int .i64 0) (.bool false) (.slice none 0 0) (.slice none 0 0) (.bool false) HB14.out HGE.out.2.1 BR14.out
           (try simp only [Exit.inBlock, Exit.then])
           refine bodyPost_ret (results_ct rfl _ _ gr 45 _ (0, 0) _ rfl hp.1 Try.underlying45 rfl (by kernel_rfl)) rfl ?_
           exact ⟨.slice none 0 0, .slice none 0 0, rfl, Kd.R_nil _ _ _ _ _, Kd.R_nil _ _ _ _ _, hp.2.1⟩
          | true =>
           obtain ⟨x0, x1, x2, x3, x4, x5, x6, x7⟩ := cells8 BC14.out
           obtain ⟨y0, y1, y2, y3, y4, y5, y6, y7⟩ := froz8 BC14.out
           have hv2 := HV.out.symm.trans H0.out
           unfold goodC at hv2
           rw [HQ.out] at hv2
           simp only [Bool.false_eq_true, if_false, if_true, tupC, Prod.mk.injEq] at hv2
           obtain ⟨rfl, rfl, rfl, rfl, rfl, rfl, rfl, rfl, rfl⟩ := hv2
           obtain ⟨u0, u1, u2, u3, u4, u5, u6, u7⟩ := cells8 BR14.out
           obtain ⟨z0, z1, z2, z3, z4, z5, z6, z7⟩ := froz8 BR14.out
           go_wp2_with fail
           have hp := put8 (.int .i64 i) (.string x) (.int .i64 (v + 1)) (.int .i64 q) (.bool true) (.slice X1 px1.length X1c) (.slice X2 px2.length X2c) (.bool true) HB14.out HGE.out.2.1 BR14.out
           have q5 := R_one SX1_14.out hp.2.2 (by have := HLSX1.out; have := HLRSX1.out; omega)
           have q6 := R_one SX2_14.out hp.2.2 (by have := HLSX2.out; have := HLRSX2.out; omega)
           have ht := R_two q5 q6 (.inl (by skip; have := Z9.out; omega))
           (try simp only [Exit.inBlock, Exit.then])
           refine bodyPost_ret (results_ct rfl _ _ gr 45 _ (0, 0) _ rfl hp.1 Try.underlying45 rfl (by kernel_rfl)) rfl ?_
           exact ⟨_, _, rfl, ht.1, ht.2, hp.2.1⟩

def spec_HearEntry.f (a0_0 : Int) (a0_1 : ByteArray) (a0_2 : Int) (a0_3 : Int) (a0_4 : Bool) (l0_5 : List Part) (l0_6 : List Part) (a0_7 : Bool) (a1_0 : Int) (a1_1 : Int) (l1_2 : List Part) : Option (Int × ByteArray × Int × Int × Bool × List Part × List Part × Bool × Bool) := if a0_1.size ≤ maxLen ∧ sizedP l0_5 = true ∧ sizedP l0_6 = true ∧ sizedP l1_2 = true then some (hearV ⟨a0_0, a0_1, a0_2, a0_3, a0_4, l0_5, l0_6, a0_7⟩ a1_0 a1_1 l1_2) else none
theorem spec_HearEntry.calls (a0_0 : Int) (a0_1 : ByteArray) (a0_2 : Int) (a0_3 : Int) (a0_4 : Bool) (A0_5 : Option Addr) (c0_5 : Nat) (l0_5 : List Part) (A0_6 : Option Addr) (c0_6 : Nat) (l0_6 : List Part) (a0_7 : Bool) (a1_0 : Int) (a1_1 : Int) (A1_2 : Option Addr) (c1_2 : Nat) (l1_2 : List Part) (r1 : Int) (r2 : ByteArray) (r3 : Int) (r4 : Int) (r5 : Bool) (r6 : List Part) (r7 : List Part) (r8 : Bool) (r9 : Bool) (w : World) (hr0_5 : Kd.C k86 w A0_5 l0_5.length l0_5) (hc0_5 : l0_5.length ≤ c0_5) (hr0_6 : Kd.C k86 w A0_6 l0_6.length l0_6) (hc0_6 : l0_6.length ≤ c0_6) (hr1_2 : Kd.C k86 w A1_2 l1_2.length l1_2) (hc1_2 : l1_2.length ≤ c1_2) (h : spec_HearEntry.f a0_0 a0_1 a0_2 a0_3 a0_4 l0_5 l0_6 a0_7 a1_0 a1_1 l1_2 = some (r1, r2, r3, r4, r5, r6, r7, r8, r9)) :
  Calls Try.prog 27 #[.agg #[.int .i64 a0_0, .string a0_1, .int .i64 a0_2, .int .i64 a0_3, .bool a0_4, .slice A0_5 l0_5.length c0_5, .slice A0_6 l0_6.length c0_6, .bool a0_7], .agg #[.int .i64 a1_0, .int .i64 a1_1, .slice A1_2 l1_2.length c1_2]] w fun e w' => ∃ v5_ v6_ : Value, e = .returned (.tuple #[.agg #[.int .i64 r1, .string r2, .int .i64 r3, .int .i64 r4, .bool r5, v5_, v6_, .bool r8], .bool r9]) ∧ Kd.R k86 86 w' w.heap.size (fun k_ => some k_ ≠ (v6_ : Value).ownBlock) v5_ r6 ∧ Kd.R k86 86 w' w.heap.size (fun k_ => some k_ ≠ (v5_ : Value).ownBlock) v6_ r7 ∧ Below w.heap.size w w' := by
 unfold spec_HearEntry.f at h
 by_cases hs : a0_1.size ≤ maxLen ∧ sizedP l0_5 = true ∧ sizedP l0_6 = true ∧ sizedP l1_2 = true
 ·rw [if_pos hs] at h
  exact specHear_walk a0_0 a0_1 a0_2 a0_3 a0_4 A0_5 c0_5 l0_5 A0_6 c0_6 l0_6 a0_7 a1_0 a1_1 A1_2 c1_2 l1_2 r1 r2 r3 r4 r5 r6 r7 r8 r9 w hr0_5 hc0_5 hr0_6 hc0_6 hr1_2 hc1_2 hs.1 hs.2.1 hs.2.2.1 hs.2.2.2 (Option.some.inj h)
 ·rw [if_neg hs] at h
  exact absurd h (by simp)
set_option maxHeartbeats 16000000 in
set_option maxRecDepth 100000 in
theorem implHear_walk (i : Int) (t : ByteArray) (v q : Int) (b : Bool) (A5 : Option Addr) (c5 : Nat) (s5 : List Part) (A6 : Option Addr) (c6 : Nat) (s6 : List Part) (d : Bool) (e0 e1 : Int) (A1 : Option Addr) (c1 : Nat) (op : List Part) (r1 : Int) (r2 : ByteArray) (r3 r4 : Int) (r5 : Bool) (r6 r7 : List Part) (r8 r9 : Bool) (w : World) (g5 : Kd.C k86 w A5 s5.length s5) (e5 : s5.length ≤ c5) (g6 : Kd.C k86 w A6 s6.length s6) (e6 : s6.length ≤ c6) (g1 : Kd.C k86 w A1 op.length op) (e1' : op.length ≤ c1) (h1 : t.size ≤ maxLen) (h5 : sizedP s5 = true) (h6 : sizedP s6 = true) (ho : sizedP op = true) (h0 : hearV ⟨i, t, v, q, b, s5, s6, d⟩ e0 e1 op = (r1, r2, r3, r4, r5, r6, r7, r8, r9)) :
  Calls Try.prog 29 #[.agg #[.int .i64 i, .string t, .int .i64 v, .int .i64 q, .bool b, .slice A5 s5.length c5, .slice A6 s6.length c6, .bool d], .agg #[.int .i64 e0, .int .i64 e1, .slice A1 op.length c1]] w fun e w' => ∃ v5_ v6_ : Value, e = .returned (.tuple #[.agg #[.int .i64 r1, .string r2, .int .i64 r3, .int .i64 r4, .bool r5, v5_, v6_, .bool r8], .bool r9]) ∧ Kd.R k86 86 w' w.heap.size (fun k_ => some k_ ≠ (v6_ : Value).ownBlock) v5_ r6 ∧ Kd.R k86 86 w' w.heap.size (fun k_ => some k_ ≠ (v5_ : Value).ownBlock) v6_ r7 ∧ Below w.heap.size w w' := by
 have hcl := impl_isClient_ev ⟨i, t, v, q, b, s5, s6, d⟩ h1 h5 h6
 obtain ⟨ke, hke⟩ := Ev.rounds (isEntry_ev ⟨e0, e1, op⟩ ho)
 simp only at hcl hke
 obtain ⟨cb, hcb⟩ : ∃ cb, clientB ⟨i, t, v, q, b, s5, s6, d⟩ = cb := ⟨_, rfl⟩
 obtain ⟨eb, heb⟩ : ∃ eb, entryB ⟨e0, e1, op⟩ = eb := ⟨_, rfl⟩
 rw [hcb] at hcl
 rw [heb] at hke
 have G5 := mz g5
 have E5 := mz e5
 have G6 := mz g6
 have E6 := mz e6
 have G1 := mz g1
 have E1 := mz e1'
 have H5 := mz h5
 have H6 := mz h6
 have HO := mz ho
 have H1 := mz h1
 have HCL := mz hcl
 have HKE := mz hke
 have HC := mz hcb
 have HE := mz heb
 have H0 := mz h0
 clear g5 e5 g6 e6 g1 e1' h1 h5 h6 ho hcl hke hcb heb h0
 go_enter Try.func29, Try.ntmps29
 go_upto_region 1 with (first | ((with_reducible refine gate_dst (N := 2) rfl ?_); refine bx 2 #[.int .i64 i, .string t, .int .i64 v, .int .i64 q, .bool b, .slice A5 s5.length c5, .slice A6 s6.length c6, .bool d] 45 ?_; intro gc hg w1 hbox hb; have HG1 := mz hg; have HB1 := mz hb; have BC1 := mz hbox; clear hg hb hbox) | ((with_reducible refine gate_dst (N := 3) rfl ?_); refine bx 3 #[.int .i64 e0, .int .i64 e1, .slice A1 op.length c1] 57 ?_; intro ge hg w1' hbox hb; have HGb := mz hg; have HBb := mz (below_step HB1.out hb); have BCb := mz (blk_below BC1.out hb); have BEb := mz hbox; have HNBE : Aside0 (ge ≠ gc) := ⟨fun e => absurd (blk_lt BC1.out) (by rw [← e, hg]; exact Nat.lt_irrefl _)⟩; clear hg hb hbox) | ((with_reducible refine gate_dst (N := 4) rfl ?_); refine bx 4 #[.int .i64 0, .string ⟨#[]⟩, .int .i64 0, .int .i64 0, .bool false, .slice none 0 0, .slice none 0 0, .bool false] 45 ?_; intro gr hg w2 hbox hb; have HB2 := mz (below_step HBb.out hb); have BC2 := mz (blk_below BCb.out hb); have BE := mz (blk_below BEb.out hb); have BR2 := mz hbox; have HGE : Aside0 (w.heap.size ≤ gc ∧ w.heap.size ≤ gr ∧ gr ≠ gc) := ⟨⟨Nat.le_of_eq HG1.out.symm, by rw [hg]; exact HBb.out.size, fun e => absurd (blk_lt BCb.out) (by rw [← e, hg]; exact Nat.lt_irrefl _)⟩⟩; clear hg hb hbox HB1 BC1 HG1 HBb BCb BEb HGb))
 (try simp only [Act.put, List.setIfInBounds_toArray, List.set_cons_zero, List.set_cons_succ])
 obtain ⟨x0, x1, x2, x3, x4, x5, x6, x7⟩ := cells8 BC2.out
 obtain ⟨y0, y1, y2, y3, y4, y5, y6, y7⟩ := froz8 BC2.out
 go_wp2_with fail
 clear x0 y0 x1 y1 x2 y2 x3 y3 x4 y4 x5 y5 x6 y6 x7 y7
 refine (impl_isClient.calls i t v q b A5 c5 s5 A6 c6 s6 d cb _ (Kd.C_below G5.out HB2.out) E5.out (Kd.C_below G6.out HB2.out) E6.out HCL.out).mono ?_
 rintro e w3 ⟨rfl, hb⟩
 have HB3 := mz (below_step HB2.out hb)
 have BC3 := mz (blk_below BC2.out hb)
 have BR3 := mz (blk_below BR2.out hb)
 have BE_3 := mz (blk_below BE.out hb)
 clear hb
 cases cb with
 | false =>
  have hv : hearV ⟨i, t, v, q, b, s5, s6, d⟩ e0 e1 op = zeroC := by unfold hearV; rw [HC.out]; simp
  have h0 := H0.out
  rw [hv] at h0
  simp only [zeroC, Prod.mk.injEq] at h0
  obtain ⟨rfl, rfl, rfl, rfl, rfl, rfl, rfl, rfl, rfl⟩ := h0
  clear hv
  obtain ⟨u0, u1, u2, u3, u4, u5, u6, u7⟩ := cells8 BR3.out
  obtain ⟨z0, z1, z2, z3, z4, z5, z6, z7⟩ := froz8 BR3.out
  go_wp2_with fail
  have hp := put8 (.int .i64 0) (.string ⟨#[]⟩) (.int .i64 0) (.int .i64 0) (.bool false) (.slice none 0 0) (.slice none 0 0) (.bool false) HB3.out HGE.out.2.1 BR3.out
  (try simp only [Exit.inBlock, Exit.then])
  refine bodyPost_ret (results_ct rfl _ _ gr 45 _ (0, 0) _ rfl hp.1 Try.underlying45 rfl (by kernel_rfl)) rfl ?_
  exact ⟨.slice none 0 0, .slice none 0 0, rfl, Kd.R_nil _ _ _ _ _, Kd.R_nil _ _ _ _ _, hp.2.1⟩
 | true =>
  obtain ⟨k0, k1, k2⟩ := cells3 BE_3.out
  go_wp2_with fail
  clear k0 k1 k2
  refine (impl_isEntry.calls ke e0 e1 A1 c1 op eb _ (Kd.C_below G1.out HB3.out) E1.out HKE.out).mono ?_
  rintro e w4 ⟨rfl, hb⟩
  have HB4 := mz (below_step HB3.out hb)
  have BC4 := mz (blk_below BC3.out hb)
  have BR4 := mz (blk_below BR3.out hb)
  have BE_4 := mz (blk_below BE_3.out hb)
  clear hb
  cases eb with
  | false =>
   have hv : hearV ⟨i, t, v, q, b, s5, s6, d⟩ e0 e1 op = zeroC := by unfold hearV; rw [HE.out]; simp
   have h0 := H0.out
   rw [hv] at h0
   simp only [zeroC, Prod.mk.injEq] at h0
   obtain ⟨rfl, rfl, rfl, rfl, rfl, rfl, rfl, rfl, rfl⟩ := h0
   clear hv
   obtain ⟨u0, u1, u2, u3, u4, u5, u6, u7⟩ := cells8 BR4.out
   obtain ⟨z0, z1, z2, z3, z4, z5, z6, z7⟩ := froz8 BR4.out
   go_wp2_with fail
   have hp := put8 (.int .i64 0) (.string ⟨#[]⟩) (.int .i64 0) (.int .i64 0) (.bool false) (.slice none 0 0) (.slice none 0 0) (.bool false) HB4.out HGE.out.2.1 BR4.out
   (try simp only [Exit.inBlock, Exit.then])
   refine bodyPost_ret (results_ct rfl _ _ gr 45 _ (0, 0) _ rfl hp.1 Try.underlying45 rfl (by kernel_rfl)) rfl ?_
   exact ⟨.slice none 0 0, .slice none 0 0, rfl, Kd.R_nil _ _ _ _ _, Kd.R_nil _ _ _ _ _, hp.2.1⟩
  | true =>
   have hcb := clientB_of HC.out
   simp only at hcb
   have HCB := mz hcb
   clear hcb
   have HOP : Aside0 (opB op = true) := ⟨(entryB_of HE.out).2.2.2.2⟩
   skip
   have hown := copied_val HC.out
   simp only at hown
   have HOWN := mz hown
   clear hown
   have HWV : Aside0 (wrap64 (v + 1) = v + 1) := ⟨w64 (by have := HCB.out.2.2.2.1; omega) (by have := HCB.out.2.2.2.2.1; omega)⟩
   have HWQ : Aside0 (wrap64 (q + 1) = q + 1) := ⟨w64 (by have := HCB.out.2.2.2.2.2; omega) (by have := HCB.out.2.2.2.2.2; omega)⟩
   obtain ⟨x0, x1, x2, x3, x4, x5, x6, x7⟩ := cells8 BC4.out
   obtain ⟨y0, y1, y2, y3, y4, y5, y6, y7⟩ := froz8 BC4.out
   go_wp2_with fail
   clear x0 y0 x1 y1 x2 y2 x3 y3 x4 y4 x5 y5 x6 y6 x7 y7
   refine (impl_Client_copied.calls i t v q b A5 c5 s5 A6 c6 s6 d i t v q b s5 s6 d _ (Kd.C_below G5.out HB4.out) E5.out (Kd.C_below G6.out HB4.out) E6.out HOWN.out).mono ?_
   rintro e w5 ⟨v5, v6, rfl, hR5, hR6, hb⟩
   have HB5 := mz (below_step HB4.out hb)
   have BC5 := mz (blk_below BC4.out hb)
   have BR5 := mz (blk_below BR4.out hb)
   have BE_5 := mz (blk_below BE_4.out hb)
   have Z5 := mz hb.size
   clear hb
   have HD56 := mz (fun k e e' => hR5.1 k e e'.symm : ∀ k, v5.ownBlock = some k → ¬ v6.ownBlock = some k)
   obtain ⟨B5, B5c, eo⟩ := Kd.R_slice hR5
   subst eo
   have SB5 := mz (R_new hR5 HB4.out.size)
   have HLSB5 : Aside0 (gc < w4.heap.size) := ⟨blk_lt BC4.out⟩
   have HLRSB5 : Aside0 (gr < w4.heap.size) := ⟨blk_lt BR4.out⟩
   clear hR5
   obtain ⟨B6, B6c, eo⟩ := Kd.R_slice hR6
   subst eo
   have SB6 := mz (R_new hR6 HB4.out.size)
   have HLSB6 : Aside0 (gc < w4.heap.size) := ⟨blk_lt BC4.out⟩
   have HLRSB6 : Aside0 (gr < w4.heap.size) := ⟨blk_lt BR4.out⟩
   clear hR6
   obtain ⟨x0, x1, x2, x3, x4, x5, x6, x7⟩ := cells8 BC5.out
   obtain ⟨y0, y1, y2, y3, y4, y5, y6, y7⟩ := froz8 BC5.out
   go_upto_region 4 with fail
   clear x0 y0 x1 y1 x2 y2 x3 y3 x4 y4 x5 y5 x6 y6 x7 y7
   have hp0 := put8 (.int .i64 i) (.string t) (.int .i64 v) (.int .i64 q) (.bool b) (.slice B5 s5.length B5c) (.slice B6 s6.length B6c) (.bool d) HB5.out HGE.out.1 BC5.out
   have HB6 := mz hp0.2.1
   have BC6 := mz hp0.1
   have BR6 := mz (blk_one BR5.out hp0.2.2 HGE.out.2.2)
   have SB5_6 := mz (R_one SB5.out hp0.2.2 (by have := HLSB5.out; omega))
   have SB6_6 := mz (R_one SB6.out hp0.2.2 (by have := HLSB6.out; omega))
   have BE_6 := mz (blk_one BE_5.out hp0.2.2 HNBE.out)
   have Z6 := mz (Nat.le_trans (Nat.le_refl _) hp0.2.2.1)
   clear hp0
   generalize (((((((w5.setCell ⟨gc, 0, none⟩ (.int .i64 i)).setCell ⟨gc, 1, none⟩ (.string t)).setCell ⟨gc, 2, none⟩ (.int .i64 v)).setCell ⟨gc, 3, none⟩ (.int .i64 q)).setCell ⟨gc, 4, none⟩ (.bool b)).setCell ⟨gc, 5, none⟩ (.slice B5 s5.length B5c)).setCell ⟨gc, 6, none⟩ (.slice B6 s6.length B6c)).setCell ⟨gc, 7, none⟩ (.bool d) = w6 at HB6 BC6 BR6  Z6  SB5_6 SB6_6 BE_6 ⊢
   obtain ⟨x0, x1, x2, x3, x4, x5, x6, x7⟩ := cells8 BC6.out
   obtain ⟨y0, y1, y2, y3, y4, y5, y6, y7⟩ := froz8 BC6.out
   go_upto_region 5 with fail
   rw [HWV.out]
   clear x0 y0 x1 y1 x2 y2 x3 y3 x4 y4 x5 y5 x6 y6 x7 y7
   have hp0 := put1 2 (.int .i64 (v + 1)) #[.int .i64 i, .string t, .int .i64 (v + 1), .int .i64 q, .bool b, .slice B5 s5.length B5c, .slice B6 s6.length B6c, .bool d] rfl HB6.out HGE.out.1 BC6.out
   have HB7 := mz hp0.2.1
   have BC7 := mz hp0.1
   have BR7 := mz (blk_one BR6.out hp0.2.2 HGE.out.2.2)
   have SB5_7 := mz (R_one SB5_6.out hp0.2.2 (by have := HLSB5.out; omega))
   have SB6_7 := mz (R_one SB6_6.out hp0.2.2 (by have := HLSB6.out; omega))
   have BE_7 := mz (blk_one BE_6.out hp0.2.2 HNBE.out)
   have Z7 := mz (Nat.le_trans (Nat.le_refl _) hp0.2.2.1)
   clear hp0
   generalize w6.setCell ⟨gc, 2, none⟩ (.int .i64 (v + 1)) = w7 at HB7 BC7 BR7  Z7  SB5_7 SB6_7 BE_7 ⊢
   go_cut [38] (fun z wc => z = .bool (ownB' ⟨i, t, v, q, b, s5, s6, d⟩ e0 e1) ∧ Aside0 (wc = w7))
   case first =>
    obtain ⟨x0, x1, x2, x3, x4, x5, x6, x7⟩ := cells8 BC7.out
    obtain ⟨y0, y1, y2, y3, y4, y5, y6, y7⟩ := froz8 BC7.out
    obtain ⟨k0, k1, k2⟩ := cells3 BE_7.out
    by_cases a0 : e0 = i
    ·by_cases a1 : e1 = q
     ·cases b with
      | false =>
       go_wp2_with fail
       go_meet
       case rel => exact ⟨by simp [ownB', a0, a1], ⟨rfl⟩⟩
      | true =>
       go_wp2_with fail
       go_meet
       case rel => exact ⟨by simp [ownB', a0, a1], ⟨rfl⟩⟩
     ·cases b with
      | false =>
       go_wp2_with fail
       go_meet
       case rel => exact ⟨by simp [ownB', a0, a1], ⟨rfl⟩⟩
      | true =>
       go_wp2_with fail
       go_meet
       case rel => exact ⟨by simp [ownB', a0, a1], ⟨rfl⟩⟩
    ·cases b with
     | false =>
      go_wp2_with fail
      go_meet
      case rel => exact ⟨by simp [ownB', a0], ⟨rfl⟩⟩
     | true =>
      go_wp2_with fail
      go_meet
      case rel => exact ⟨by simp [ownB', a0], ⟨rfl⟩⟩
   case rest =>
    obtain ⟨rfl, hwc⟩ := hcut
    obtain rfl := hwc.out.symm
    clear hwc
    obtain ⟨ob, hob⟩ : ∃ ob, ownB' ⟨i, t, v, q, b, s5, s6, d⟩ e0 e1 = ob := ⟨_, rfl⟩
    rw [hob]
    have HOB := mz hob
    clear hob
    skip
    cases ob with
    | true =>
     have hb' : b = true := by cases b with | true => rfl | false => exact absurd HOB.out (by simp [ownB'])
     subst hb'
     obtain ⟨x0, x1, x2, x3, x4, x5, x6, x7⟩ := cells8 BC7.out
     obtain ⟨y0, y1, y2, y3, y4, y5, y6, y7⟩ := froz8 BC7.out
     go_upto_region 7 with fail
     clear x0 y0 x1 y1 x2 y2 x3 y3 x4 y4 x5 y5 x6 y6 x7 y7
     have hp0 := put1 4 (.bool d) #[.int .i64 i, .string t, .int .i64 (v + 1), .int .i64 q, .bool d, .slice B5 s5.length B5c, .slice B6 s6.length B6c, .bool d] rfl HB7.out HGE.out.1 BC7.out
     have hp1 := put1 5 (.slice B6 s6.length B6c) #[.int .i64 i, .string t, .int .i64 (v + 1), .int .i64 q, .bool d, .slice B6 s6.length B6c, .slice B6 s6.length B6c, .bool d] rfl hp0.2.1 HGE.out.1 hp0.1
     have HB8 := mz hp1.2.1
     have BC8 := mz hp1.1
     have BR8 := mz (blk_one (blk_one BR7.out hp0.2.2 HGE.out.2.2) hp1.2.2 HGE.out.2.2)
     have SB5_8 := mz (R_one (R_one SB5_7.out hp0.2.2 (by have := HLSB5.out; omega)) hp1.2.2 (by have := HLSB5.out; omega))
     have SB6_8 := mz (R_one (R_one SB6_7.out hp0.2.2 (by have := HLSB6.out; omega)) hp1.2.2 (by have := HLSB6.out; omega))
     have BE_8 := mz (blk_one (blk_one BE_7.out hp0.2.2 HNBE.out) hp1.2.2 HNBE.out)
     have Z8 := mz (Nat.le_trans (Nat.le_trans (Nat.le_refl _) hp0.2.2.1) hp1.2.2.1)
     clear hp0 hp1
     generalize (w7.setCell ⟨gc, 4, none⟩ (.bool d)).setCell ⟨gc, 5, none⟩ (.slice B6 s6.length B6c) = w8 at HB8 BC8 BR8  Z8  SB5_8 SB6_8 BE_8 ⊢
     obtain ⟨x0, x1, x2, x3, x4, x5, x6, x7⟩ := cells8 BC8.out
     obtain ⟨y0, y1, y2, y3, y4, y5, y6, y7⟩ := froz8 BC8.out
     cases d with
     | false =>
      go_upto_region 10 with fail
      clear x0 y0 x1 y1 x2 y2 x3 y3 x4 y4 x5 y5 x6 y6 x7 y7
      have hp0 := put1 7 (.bool false) #[.int .i64 i, .string t, .int .i64 (v + 1), .int .i64 q, .bool false, .slice B6 s6.length B6c, .slice B6 s6.length B6c, .bool false] rfl HB8.out HGE.out.1 BC8.out
      have hp1 := put1 6 (.slice none 0 0) #[.int .i64 i, .string t, .int .i64 (v + 1), .int .i64 q, .bool false, .slice B6 s6.length B6c, .slice none 0 0, .bool false] rfl hp0.2.1 HGE.out.1 hp0.1
      have HB9 := mz hp1.2.1
      have BC9 := mz hp1.1
      have BR9 := mz (blk_one (blk_one BR8.out hp0.2.2 HGE.out.2.2) hp1.2.2 HGE.out.2.2)
      have SB5_9 := mz (R_one (R_one SB5_8.out hp0.2.2 (by have := HLSB5.out; omega)) hp1.2.2 (by have := HLSB5.out; omega))
      have SB6_9 := mz (R_one (R_one SB6_8.out hp0.2.2 (by have := HLSB6.out; omega)) hp1.2.2 (by have := HLSB6.out; omega))
      have BE_9 := mz (blk_one (blk_one BE_8.out hp0.2.2 HNBE.out) hp1.2.2 HNBE.out)
      have Z9 := mz (Nat.le_trans (Nat.le_trans (Nat.le_refl _) hp0.2.2.1) hp1.2.2.1)
      clear hp0 hp1
      generalize (w8.setCell ⟨gc, 7, none⟩ (.bool false)).setCell ⟨gc, 6, none⟩ (.slice none 0 0) = w9 at HB9 BC9 BR9  Z9  SB5_9 SB6_9 BE_9 ⊢
      have HV : Aside0 (hearV ⟨i, t, v, q, true, s5, s6, false⟩ e0 e1 op = goodC ⟨i, t, v + 1, q, false, s6, [], false⟩) := ⟨by unfold hearV; rw [if_pos ⟨HC.out, HE.out⟩, if_pos HOB.out]; rfl⟩
      have Snil := mz (nilR w9 w.heap.size w9.heap.size)
      have HLSnil : Aside0 (gc < w9.heap.size) := ⟨blk_lt BC9.out⟩
      have HLRSnil : Aside0 (gr < w9.heap.size) := ⟨blk_lt BR9.out⟩
      have hgc := goodClient_val ⟨i, t, v + 1, q, false, s6, [], false⟩ H1.out H6.out rfl
      simp only at hgc
      have HGC := mz (hgc.trans (congrArg some (HV.out.symm.trans H0.out)))
      clear hgc
      obtain ⟨x0, x1, x2, x3, x4, x5, x6, x7⟩ := cells8 BC9.out
      obtain ⟨y0, y1, y2, y3, y4, y5, y6, y7⟩ := froz8 BC9.out
      go_wp2_with fail
      clear x0 y0 x1 y1 x2 y2 x3 y3 x4 y4 x5 y5 x6 y6 x7 y7
      have q5 := SB6_9.out
      have q6 := Snil.out
      have qd : ∀ k, (w4.heap.size ≤ k ∧ k < w5.heap.size) → ¬ (w9.heap.size ≤ k ∧ k < w9.heap.size) := fun k h h' => by have := h.1; have := h.2; have := h'.1; have := h'.2; skip; have := Z6.out; have := Z7.out; have := Z8.out; have := Z9.out; omega
      have qm5 : ∀ k, (w4.heap.size ≤ k ∧ k < w5.heap.size) → (w4.heap.size ≤ k ∧ k < w5.heap.size) := fun _ h => h
      have qm6 : ∀ k, (w9.heap.size ≤ k ∧ k < w9.heap.size) → (w9.heap.size ≤ k ∧ k < w9.heap.size) := fun _ h => h
      refine (impl_goodClient.calls i t (v + 1) q false _ _ s6 _ _ ([] : List Part) false _ _ _ _ _ _ _ _ _ w w9 HB9.out q5 qd q6 (fun k h h' => qd k h' h) HGC.out).mono ?_
      rintro e w10 ⟨v5, v6, rfl, hR5, hR6, hb, hk⟩
      obtain ⟨J5, J5c, eo⟩ := Kd.R_slice hR5
      subst eo
      obtain ⟨J6, J6c, eo⟩ := Kd.R_slice hR6
      subst eo
      have BR10 := mz (blk_kp BR9.out hk (fun h => by have := HLRSB6.out; have := HLRSnil.out; rcases h with h | h; (· have := (qm5 _ h).1; omega); (· have := (qm6 _ h).1; omega)))
      have HB10 := mz hb
      have HW : Aside0 (gr < w9.heap.size) := ⟨blk_lt BR9.out⟩
      have Q5 := mz hR5
      have Q6 := mz hR6
      have QM := mz (And.intro qm5 qm6)
      clear hR5 hR6 hb hk q5 q6 qd qm5 qm6
      obtain ⟨u0, u1, u2, u3, u4, u5, u6, u7⟩ := cells8 BR10.out
      obtain ⟨z0, z1, z2, z3, z4, z5, z6, z7⟩ := froz8 BR10.out
      go_wp2_with fail
      have hp := put8 (.int .i64 r1) (.string r2) (.int .i64 r3) (.int .i64 r4) (.bool r5) (.slice J5 r6.length J5c) (.slice J6 r7.length J6c) (.bool r8) HB10.out HGE.out.2.1 BR10.out
      (try simp only [Exit.inBlock, Exit.then])
      refine bodyPost_ret (results_ct rfl _ _ gr 45 _ (0, 0) _ rfl hp.1 Try.underlying45 rfl (by kernel_rfl)) rfl ?_
      have hl5 := HLRSB6.out
      have hl6 := HLRSnil.out
      have hlw := HW.out
      exact ⟨_, _, rfl, Kd.R_mono (Kd.R_step Q5.out (fun k h1 hlt => hp.2.2.2 k hlt (fun e => by rcases h1.1 with (h | h) | h; (· have := (QM.out.1 k h).1; omega); (· have := (QM.out.2 k h).1; omega); (· omega)))) (fun k h => h.2), Kd.R_mono (Kd.R_step Q6.out (fun k h1 hlt => hp.2.2.2 k hlt (fun e => by rcases h1.1 with (h | h) | h; (· have := (QM.out.1 k h).1; omega); (· have := (QM.out.2 k h).1; omega); (· omega)))) (fun k h => h.2), hp.2.1⟩
     | true =>
      go_upto_region 9 with fail
      rw [HWQ.out]
      clear x0 y0 x1 y1 x2 y2 x3 y3 x4 y4 x5 y5 x6 y6 x7 y7
      have hp0 := put1 3 (.int .i64 (q + 1)) #[.int .i64 i, .string t, .int .i64 (v + 1), .int .i64 (q + 1), .bool true, .slice B6 s6.length B6c, .slice B6 s6.length B6c, .bool true] rfl HB8.out HGE.out.1 BC8.out
      have HB9 := mz hp0.2.1
      have BC9 := mz hp0.1
      have BR9 := mz (blk_one BR8.out hp0.2.2 HGE.out.2.2)
      have SB5_9 := mz (R_one SB5_8.out hp0.2.2 (by have := HLSB5.out; omega))
      have SB6_9 := mz (R_one SB6_8.out hp0.2.2 (by have := HLSB6.out; omega))
      have BE_9 := mz (blk_one BE_8.out hp0.2.2 HNBE.out)
      have Z9 := mz (Nat.le_trans (Nat.le_refl _) hp0.2.2.1)
      clear hp0
      generalize w8.setCell ⟨gc, 3, none⟩ (.int .i64 (q + 1)) = w9 at HB9 BC9 BR9  Z9  SB5_9 SB6_9 BE_9 ⊢
      obtain ⟨x0, x1, x2, x3, x4, x5, x6, x7⟩ := cells8 BC9.out
      obtain ⟨y0, y1, y2, y3, y4, y5, y6, y7⟩ := froz8 BC9.out
      go_upto_region 10 with fail
      clear x0 y0 x1 y1 x2 y2 x3 y3 x4 y4 x5 y5 x6 y6 x7 y7
      have hp0 := put1 7 (.bool false) #[.int .i64 i, .string t, .int .i64 (v + 1), .int .i64 (q + 1), .bool true, .slice B6 s6.length B6c, .slice B6 s6.length B6c, .bool false] rfl HB9.out HGE.out.1 BC9.out
      have hp1 := put1 6 (.slice none 0 0) #[.int .i64 i, .string t, .int .i64 (v + 1), .int .i64 (q + 1), .bool true, .slice B6 s6.length B6c, .slice none 0 0, .bool false] rfl hp0.2.1 HGE.out.1 hp0.1
      have HB10 := mz hp1.2.1
      have BC10 := mz hp1.1
      have BR10 := mz (blk_one (blk_one BR9.out hp0.2.2 HGE.out.2.2) hp1.2.2 HGE.out.2.2)
      have SB5_10 := mz (R_one (R_one SB5_9.out hp0.2.2 (by have := HLSB5.out; omega)) hp1.2.2 (by have := HLSB5.out; omega))
      have SB6_10 := mz (R_one (R_one SB6_9.out hp0.2.2 (by have := HLSB6.out; omega)) hp1.2.2 (by have := HLSB6.out; omega))
      have BE_10 := mz (blk_one (blk_one BE_9.out hp0.2.2 HNBE.out) hp1.2.2 HNBE.out)
      have Z10 := mz (Nat.le_trans (Nat.le_trans (Nat.le_refl _) hp0.2.2.1) hp1.2.2.1)
      clear hp0 hp1
      generalize (w9.setCell ⟨gc, 7, none⟩ (.bool false)).setCell ⟨gc, 6, none⟩ (.slice none 0 0) = w10 at HB10 BC10 BR10  Z10  SB5_10 SB6_10 BE_10 ⊢
      have HV : Aside0 (hearV ⟨i, t, v, q, true, s5, s6, true⟩ e0 e1 op = goodC ⟨i, t, v + 1, q + 1, true, s6, [], false⟩) := ⟨by unfold hearV; rw [if_pos ⟨HC.out, HE.out⟩, if_pos HOB.out]; rfl⟩
      have Snil := mz (nilR w10 w.heap.size w10.heap.size)
      have HLSnil : Aside0 (gc < w10.heap.size) := ⟨blk_lt BC10.out⟩
      have HLRSnil : Aside0 (gr < w10.heap.size) := ⟨blk_lt BR10.out⟩
      have hgc := goodClient_val ⟨i, t, v + 1, q + 1, true, s6, [], false⟩ H1.out H6.out rfl
      simp only at hgc
      have HGC := mz (hgc.trans (congrArg some (HV.out.symm.trans H0.out)))
      clear hgc
      obtain ⟨x0, x1, x2, x3, x4, x5, x6, x7⟩ := cells8 BC10.out
      obtain ⟨y0, y1, y2, y3, y4, y5, y6, y7⟩ := froz8 BC10.out
      go_wp2_with fail
      clear x0 y0 x1 y1 x2 y2 x3 y3 x4 y4 x5 y5 x6 y6 x7 y7
      have q5 := SB6_10.out
      have q6 := Snil.out
      have qd : ∀ k, (w4.heap.size ≤ k ∧ k < w5.heap.size) → ¬ (w10.heap.size ≤ k ∧ k < w10.heap.size) := fun k h h' => by have := h.1; have := h.2; have := h'.1; have := h'.2; skip; have := Z6.out; have := Z7.out; have := Z8.out; have := Z9.out; have := Z10.out; omega
      have qm5 : ∀ k, (w4.heap.size ≤ k ∧ k < w5.heap.size) → (w4.heap.size ≤ k ∧ k < w5.heap.size) := fun _ h => h
      have qm6 : ∀ k, (w10.heap.size ≤ k ∧ k < w10.heap.size) → (w10.heap.size ≤ k ∧ k < w10.heap.size) := fun _ h => h
      refine (impl_goodClient.calls i t (v + 1) (q + 1) true _ _ s6 _ _ ([] : List Part) false _ _ _ _ _ _ _ _ _ w w10 HB10.out q5 qd q6 (fun k h h' => qd k h' h) HGC.out).mono ?_
      rintro e w11 ⟨v5, v6, rfl, hR5, hR6, hb, hk⟩
      obtain ⟨J5, J5c, eo⟩ := Kd.R_slice hR5
      subst eo
      obtain ⟨J6, J6c, eo⟩ := Kd.R_slice hR6
      subst eo
      have BR11 := mz (blk_kp BR10.out hk (fun h => by have := HLRSB6.out; have := HLRSnil.out; rcases h with h | h; (· have := (qm5 _ h).1; omega); (· have := (qm6 _ h).1; omega)))
      have HB11 := mz hb
      have HW : Aside0 (gr < w10.heap.size) := ⟨blk_lt BR10.out⟩
      have Q5 := mz hR5
      have Q6 := mz hR6
      have QM := mz (And.intro qm5 qm6)
      clear hR5 hR6 hb hk q5 q6 qd qm5 qm6
      obtain ⟨u0, u1, u2, u3, u4, u5, u6, u7⟩ := cells8 BR11.out
      obtain ⟨z0, z1, z2, z3, z4, z5, z6, z7⟩ := froz8 BR11.out
      go_wp2_with fail
      have hp := put8 (.int .i64 r1) (.string r2) (.int .i64 r3) (.int .i64 r4) (.bool r5) (.slice J5 r6.length J5c) (.slice J6 r7.length J6c) (.bool r8) HB11.out HGE.out.2.1 BR11.out
      (try simp only [Exit.inBlock, Exit.then])
      refine bodyPost_ret (results_ct rfl _ _ gr 45 _ (0, 0) _ rfl hp.1 Try.underlying45 rfl (by kernel_rfl)) rfl ?_
      have hl5 := HLRSB6.out
      have hl6 := HLRSnil.out
      have hlw := HW.out
      exact ⟨_, _, rfl, Kd.R_mono (Kd.R_step Q5.out (fun k h1 hlt => hp.2.2.2 k hlt (fun e => by rcases h1.1 with (h | h) | h; (· have := (QM.out.1 k h).1; omega); (· have := (QM.out.2 k h).1; omega); (· omega)))) (fun k h => h.2), Kd.R_mono (Kd.R_step Q6.out (fun k h1 hlt => hp.2.2.2 k hlt (fun e => by rcases h1.1 with (h | h) | h; (· have := (QM.out.1 k h).1; omega); (· have := (QM.out.2 k h).1; omega); (· omega)))) (fun k h => h.2), hp.2.1⟩
    | false =>
     have HVo : Aside0 (hearV ⟨i, t, v, q, b, s5, s6, d⟩ e0 e1 op = hearO ⟨i, t, v, q, b, s5, s6, d⟩ op) := ⟨by unfold hearV; rw [if_pos ⟨HC.out, HE.out⟩, if_neg (by rw [HOB.out]; simp)]⟩
     obtain ⟨x0, x1, x2, x3, x4, x5, x6, x7⟩ := cells8 BC7.out
     obtain ⟨y0, y1, y2, y3, y4, y5, y6, y7⟩ := froz8 BC7.out
     obtain ⟨k0, k1, k2⟩ := cells3 BE_7.out
     go_wp2_with fail
     clear k0 k1 k2
     clear x0 y0 x1 y1 x2 y2 x3 y3 x4 y4 x5 y5 x6 y6 x7 y7
     refine (impl_Part_75.calls A1 c1 op op _ (Kd.C_below G1.out HB7.out) E1.out (clone_val op (opB_of HOP.out).1)).mono ?_
     rintro e w8 ⟨vo, rfl, hRo, hb⟩
     have HB8 := mz (below_step HB7.out hb)
     have BC8 := mz (blk_below BC7.out hb)
     have BR8 := mz (blk_below BR7.out hb)
     have BE_8 := mz (blk_below BE_7.out hb)
     have SB5_8 := mz (Kd.R_below SB5_7.out hb)
     have SB6_8 := mz (Kd.R_below SB6_7.out hb)
     have Z8 := mz hb.size
     clear hb
     obtain ⟨O, Oc, eo⟩ := Kd.R_slice hRo
     subst eo
     have SO := mz (R_new hRo HB7.out.size)
     have HLSO : Aside0 (gc < w7.heap.size) := ⟨blk_lt BC7.out⟩
     have HLRSO : Aside0 (gr < w7.heap.size) := ⟨blk_lt BR7.out⟩
     clear hRo
     obtain ⟨x0, x1, x2, x3, x4, x5, x6, x7⟩ := cells8 BC8.out
     obtain ⟨y0, y1, y2, y3, y4, y5, y6, y7⟩ := froz8 BC8.out
     cases b with
     | false =>
      obtain rfl : d = false := tail_dirty HC.out
      have HVt : Aside0 (hearV ⟨i, t, v, q, false, s5, s6, false⟩ e0 e1 op = hearT ⟨i, t, v, q, false, s5, s6, false⟩ s5 s6 op) := ⟨by rw [HVo.out]; rfl⟩
      go_wp2_with fail
      obtain ⟨ka, hka⟩ := Ev.rounds (implApply_ev op t (opB_sized HOP.out) H1.out)
      obtain ⟨⟨x, ok⟩, hx⟩ : ∃ p, applyV op t = p := ⟨_, rfl⟩
      rw [hx] at hka
      have HKA := mz hka
      have HAP := mz hx
      clear hka hx
      clear x0 y0 x1 y1 x2 y2 x3 y3 x4 y4 x5 y5 x6 y6 x7 y7
      refine (impl_ApplyOp.calls ka O Oc op t x ok _ (Kd.R_reads' SO.out).2.2 (Kd.R_reads' SO.out).2.1 HKA.out).mono ?_
      rintro e w9 ⟨rfl, hb⟩
      have HB9 := mz (below_step HB8.out hb)
      have BC9 := mz (blk_below BC8.out hb)
      have BR9 := mz (blk_below BR8.out hb)
      have BE_9 := mz (blk_below BE_8.out hb)
      have SB5_9 := mz (Kd.R_below SB5_8.out hb)
      have SB6_9 := mz (Kd.R_below SB6_8.out hb)
      have SO_9 := mz (Kd.R_below SO.out hb)
      have Z9 := mz hb.size
      clear hb
      obtain ⟨x0, x1, x2, x3, x4, x5, x6, x7⟩ := cells8 BC9.out
      obtain ⟨y0, y1, y2, y3, y4, y5, y6, y7⟩ := froz8 BC9.out
      go_upto_region 18 with fail
      clear x0 y0 x1 y1 x2 y2 x3 y3 x4 y4 x5 y5 x6 y6 x7 y7
      have hp0 := put1 1 (.string x) #[.int .i64 i, .string x, .int .i64 (v + 1), .int .i64 q, .bool false, .slice B5 s5.length B5c, .slice B6 s6.length B6c, .bool false] rfl HB9.out HGE.out.1 BC9.out
      have HB10 := mz hp0.2.1
      have BC10 := mz hp0.1
      have BR10 := mz (blk_one BR9.out hp0.2.2 HGE.out.2.2)
      have SB5_10 := mz (R_one SB5_9.out hp0.2.2 (by have := HLSB5.out; omega))
      have SB6_10 := mz (R_one SB6_9.out hp0.2.2 (by have := HLSB6.out; omega))
      have SO_10 := mz (R_one SO_9.out hp0.2.2 (by have := HLSO.out; omega))
      have BE_10 := mz (blk_one BE_9.out hp0.2.2 HNBE.out)
      have Z10 := mz (Nat.le_trans (Nat.le_refl _) hp0.2.2.1)
      clear hp0
      generalize w9.setCell ⟨gc, 1, none⟩ (.string x) = w10 at HB10 BC10 BR10  Z10  SB5_10 SB6_10 SO_10 BE_10 ⊢
      cases ok with
      | false =>
       have hv : hearV ⟨i, t, v, q, false, s5, s6, false⟩ e0 e1 op = zeroC := by rw [HVt.out]; unfold hearT; simp only [HAP.out]; rfl
       have h0 := H0.out
       rw [hv] at h0
       simp only [zeroC, Prod.mk.injEq] at h0
       obtain ⟨rfl, rfl, rfl, rfl, rfl, rfl, rfl, rfl, rfl⟩ := h0
       clear hv
       obtain ⟨u0, u1, u2, u3, u4, u5, u6, u7⟩ := cells8 BR10.out
       obtain ⟨z0, z1, z2, z3, z4, z5, z6, z7⟩ := froz8 BR10.out
       go_wp2_with fail
       have hp := put8 (.int .i64 0) (.string ⟨#[]⟩) (.int .i64 0) (.int .i64 0) (.bool false) (.slice none 0 0) (.slice none 0 0) (.bool false) HB10.out HGE.out.2.1 BR10.out
       (try simp only [Exit.inBlock, Exit.then])
       refine bodyPost_ret (results_ct rfl _ _ gr 45 _ (0, 0) _ rfl hp.1 Try.underlying45 rfl (by kernel_rfl)) rfl ?_
       exact ⟨.slice none 0 0, .slice none 0 0, rfl, Kd.R_nil _ _ _ _ _, Kd.R_nil _ _ _ _ _, hp.2.1⟩
      | true =>
       have HAP2 : Aside0 (applyV op t = (x, true)) := ⟨HAP.out⟩
       have HXS : Aside0 (x.size ≤ maxLen) := ⟨by have h := applyV_size op t; rw [HAP2.out] at h; simp only at h; unfold maxLen; omega⟩
       have HV : Aside0 (hearV ⟨i, t, v, q, false, s5, s6, false⟩ e0 e1 op = goodC ⟨i, x, v + 1, q, false, s5, s6, false⟩) := ⟨by rw [HVt.out]; unfold hearT; simp only [HAP2.out]; rfl⟩
       have hgc := goodClient_val ⟨i, x, v + 1, q, false, s5, s6, false⟩ HXS.out H5.out H6.out
       simp only at hgc
       have HGC := mz (hgc.trans (congrArg some (HV.out.symm.trans H0.out)))
       clear hgc
       obtain ⟨x0, x1, x2, x3, x4, x5, x6, x7⟩ := cells8 BC10.out
       obtain ⟨y0, y1, y2, y3, y4, y5, y6, y7⟩ := froz8 BC10.out
       go_wp2_with fail
       clear x0 y0 x1 y1 x2 y2 x3 y3 x4 y4 x5 y5 x6 y6 x7 y7
       have q5 := R_self SB5_10.out
       have q6 := R_self SB6_10.out
       have qd := HD56.out
       have qm5 := SB5_10.out.1
       have qm6 := SB6_10.out.1
       refine (impl_goodClient.calls i x (v + 1) q false _ _ s5 _ _ s6 false _ _ _ _ _ _ _ _ _ w w10 HB10.out q5 qd q6 (fun k h h' => qd k h' h) HGC.out).mono ?_
       rintro e w11 ⟨v5, v6, rfl, hR5, hR6, hb, hk⟩
       obtain ⟨J5, J5c, eo⟩ := Kd.R_slice hR5
       subst eo
       obtain ⟨J6, J6c, eo⟩ := Kd.R_slice hR6
       subst eo
       have BR11 := mz (blk_kp BR10.out hk (fun h => by have := HLRSB5.out; have := HLRSB6.out; rcases h with h | h; (· have := (qm5 _ h).1; omega); (· have := (qm6 _ h).1; omega)))
       have HB11 := mz hb
       have HW : Aside0 (gr < w10.heap.size) := ⟨blk_lt BR10.out⟩
       have Q5 := mz hR5
       have Q6 := mz hR6
       have QM := mz (And.intro qm5 qm6)
       clear hR5 hR6 hb hk q5 q6 qd qm5 qm6
       obtain ⟨u0, u1, u2, u3, u4, u5, u6, u7⟩ := cells8 BR11.out
       obtain ⟨z0, z1, z2, z3, z4, z5, z6, z7⟩ := froz8 BR11.out
       go_wp2_with fail
       have hp := put8 (.int .i64 r1) (.string r2) (.int .i64 r3) (.int .i64 r4) (.bool r5) (.slice J5 r6.length J5c) (.slice J6 r7.length J6c) (.bool r8) HB11.out HGE.out.2.1 BR11.out
       (try simp only [Exit.inBlock, Exit.then])
       refine bodyPost_ret (results_ct rfl _ _ gr 45 _ (0, 0) _ rfl hp.1 Try.underlying45 rfl (by kernel_rfl)) rfl ?_
       have hl5 := HLRSB5.out
       have hl6 := HLRSB6.out
       have hlw := HW.out
       exact ⟨_, _, rfl, Kd.R_mono (Kd.R_step Q5.out (fun k h1 hlt => hp.2.2.2 k hlt (fun e => by rcases h1.1 with (h | h) | h; (· have := (QM.out.1 k h).1; omega); (· have := (QM.out.2 k h).1; omega); (· omega)))) (fun k h => h.2), Kd.R_mono (Kd.R_step Q6.out (fun k h1 hlt => hp.2.2.2 k hlt (fun e => by rcases h1.1 with (h | h) | h; (· have := (QM.out.1 k h).1; omega); (· have := (QM.out.2 k h).1; omega); (· omega)))) (fun k h => h.2), hp.2.1⟩
     | true =>
      go_wp2_with fail
      have hkt := implTransform_val s5 op H5.out HO.out
      have hz := @trV_sized s5 op
      have hg := @trV_good s5 op
      obtain ⟨⟨px1, py1, tk1⟩, hx⟩ : ∃ p, trV s5 op = p := ⟨_, rfl⟩
      rw [hx] at hkt hz hg
      simp only at hz hg
      have HKT1 := mz hkt
      have HTV1 := mz hx
      have HZ1 := mz hz
      have HGD1 := mz hg
      clear hkt hz hg hx
      clear x0 y0 x1 y1 x2 y2 x3 y3 x4 y4 x5 y5 x6 y6 x7 y7
      refine (impl_TransformOps.calls B5 B5c s5 O Oc op px1 py1 tk1 _ (Kd.R_reads' SB5_8.out).2.2 (Kd.R_reads' SB5_8.out).2.1 (Kd.R_reads' SO.out).2.2 (Kd.R_reads' SO.out).2.1 HKT1.out).mono ?_
      rintro e w9 ⟨vx, vy, rfl, hRx, hRy, hb⟩
      have HB9 := mz (below_step HB8.out hb)
      have BC9 := mz (blk_below BC8.out hb)
      have BR9 := mz (blk_below BR8.out hb)
      have BE_9 := mz (blk_below BE_8.out hb)
      have SB5_9 := mz (Kd.R_below SB5_8.out hb)
      have SB6_9 := mz (Kd.R_below SB6_8.out hb)
      have SO_9 := mz (Kd.R_below SO.out hb)
      have Z9 := mz hb.size
      clear hb
      obtain ⟨X1, X1c, eo⟩ := Kd.R_slice hRx
      subst eo
      have SX1 := mz (R_new hRx HB8.out.size)
      have HLSX1 : Aside0 (gc < w8.heap.size) := ⟨blk_lt BC8.out⟩
      have HLRSX1 : Aside0 (gr < w8.heap.size) := ⟨blk_lt BR8.out⟩
      clear hRx
      obtain ⟨Y1, Y1c, eo⟩ := Kd.R_slice hRy
      subst eo
      have SY1 := mz (R_new hRy HB8.out.size)
      have HLSY1 : Aside0 (gc < w8.heap.size) := ⟨blk_lt BC8.out⟩
      have HLRSY1 : Aside0 (gr < w8.heap.size) := ⟨blk_lt BR8.out⟩
      clear hRy
      obtain ⟨x0, x1, x2, x3, x4, x5, x6, x7⟩ := cells8 BC9.out
      obtain ⟨y0, y1, y2, y3, y4, y5, y6, y7⟩ := froz8 BC9.out
      go_upto_region 14 with fail
      clear x0 y0 x1 y1 x2 y2 x3 y3 x4 y4 x5 y5 x6 y6 x7 y7
      have hp0 := put1 5 (.slice X1 px1.length X1c) #[.int .i64 i, .string t, .int .i64 (v + 1), .int .i64 q, .bool true, .slice X1 px1.length X1c, .slice B6 s6.length B6c, .bool d] rfl HB9.out HGE.out.1 BC9.out
      have HB10 := mz hp0.2.1
      have BC10 := mz hp0.1
      have BR10 := mz (blk_one BR9.out hp0.2.2 HGE.out.2.2)
      have SB5_10 := mz (R_one SB5_9.out hp0.2.2 (by have := HLSB5.out; omega))
      have SB6_10 := mz (R_one SB6_9.out hp0.2.2 (by have := HLSB6.out; omega))
      have SO_10 := mz (R_one SO_9.out hp0.2.2 (by have := HLSO.out; omega))
      have SX1_10 := mz (R_one SX1.out hp0.2.2 (by have := HLSX1.out; omega))
      have SY1_10 := mz (R_one SY1.out hp0.2.2 (by have := HLSY1.out; omega))
      have BE_10 := mz (blk_one BE_9.out hp0.2.2 HNBE.out)
      have Z10 := mz (Nat.le_trans (Nat.le_refl _) hp0.2.2.1)
      clear hp0
      generalize w9.setCell ⟨gc, 5, none⟩ (.slice X1 px1.length X1c) = w10 at HB10 BC10 BR10  Z10  SB5_10 SB6_10 SO_10 SX1_10 SY1_10 BE_10 ⊢
      cases tk1 with
      | false =>
       have hv : hearV ⟨i, t, v, q, true, s5, s6, d⟩ e0 e1 op = zeroC := by rw [HVo.out]; unfold hearO; simp only [if_true, HTV1.out]; rfl
       have h0 := H0.out
       rw [hv] at h0
       simp only [zeroC, Prod.mk.injEq] at h0
       obtain ⟨rfl, rfl, rfl, rfl, rfl, rfl, rfl, rfl, rfl⟩ := h0
       clear hv
       obtain ⟨u0, u1, u2, u3, u4, u5, u6, u7⟩ := cells8 BR10.out
       obtain ⟨z0, z1, z2, z3, z4, z5, z6, z7⟩ := froz8 BR10.out
       go_wp2_with fail
       have hp := put8 (.int .i64 0) (.string ⟨#[]⟩) (.int .i64 0) (.int .i64 0) (.bool false) (.slice none 0 0) (.slice none 0 0) (.bool false) HB10.out HGE.out.2.1 BR10.out
       (try simp only [Exit.inBlock, Exit.then])
       refine bodyPost_ret (results_ct rfl _ _ gr 45 _ (0, 0) _ rfl hp.1 Try.underlying45 rfl (by kernel_rfl)) rfl ?_
       exact ⟨.slice none 0 0, .slice none 0 0, rfl, Kd.R_nil _ _ _ _ _, Kd.R_nil _ _ _ _ _, hp.2.1⟩
      | true =>
       have HVd : Aside0 (hearV ⟨i, t, v, q, true, s5, s6, d⟩ e0 e1 op = hearD ⟨i, t, v, q, true, s5, s6, d⟩ px1 py1) := ⟨by rw [HVo.out]; unfold hearO; simp only [if_true, HTV1.out]⟩
       obtain ⟨x0, x1, x2, x3, x4, x5, x6, x7⟩ := cells8 BC10.out
       obtain ⟨y0, y1, y2, y3, y4, y5, y6, y7⟩ := froz8 BC10.out
       cases d with
       | false =>
        go_wp2_with fail
        have HVt : Aside0 (hearV ⟨i, t, v, q, true, s5, s6, false⟩ e0 e1 op = hearT ⟨i, t, v, q, true, s5, s6, false⟩ px1 s6 py1) := ⟨by rw [HVd.out]; rfl⟩
        have HOP1 : Aside0 (opB py1 = true) := ⟨(HGD1.out (by trivial)).2⟩
        obtain ⟨ka, hka⟩ := Ev.rounds (implApply_ev py1 t (opB_sized HOP1.out) H1.out)
        obtain ⟨⟨x, ok⟩, hx⟩ : ∃ p, applyV py1 t = p := ⟨_, rfl⟩
        rw [hx] at hka
        have HKA := mz hka
        have HAP := mz hx
        clear hka hx
        clear x0 y0 x1 y1 x2 y2 x3 y3 x4 y4 x5 y5 x6 y6 x7 y7
        refine (impl_ApplyOp.calls ka Y1 Y1c py1 t x ok _ (Kd.R_reads' SY1_10.out).2.2 (Kd.R_reads' SY1_10.out).2.1 HKA.out).mono ?_
        rintro e w11 ⟨rfl, hb⟩
        have HB11 := mz (below_step HB10.out hb)
        have BC11 := mz (blk_below BC10.out hb)
        have BR11 := mz (blk_below BR10.out hb)
        have BE_11 := mz (blk_below BE_10.out hb)
        have SB5_11 := mz (Kd.R_below SB5_10.out hb)
        have SB6_11 := mz (Kd.R_below SB6_10.out hb)
        have SO_11 := mz (Kd.R_below SO_10.out hb)
        have SX1_11 := mz (Kd.R_below SX1_10.out hb)
        have SY1_11 := mz (Kd.R_below SY1_10.out hb)
        have Z11 := mz hb.size
        clear hb
        obtain ⟨x0, x1, x2, x3, x4, x5, x6, x7⟩ := cells8 BC11.out
        obtain ⟨y0, y1, y2, y3, y4, y5, y6, y7⟩ := froz8 BC11.out
        go_upto_region 18 with fail
        clear x0 y0 x1 y1 x2 y2 x3 y3 x4 y4 x5 y5 x6 y6 x7 y7
        have hp0 := put1 1 (.string x) #[.int .i64 i, .string x, .int .i64 (v + 1), .int .i64 q, .bool true, .slice X1 px1.length X1c, .slice B6 s6.length B6c, .bool false] rfl HB11.out HGE.out.1 BC11.out
        have HB12 := mz hp0.2.1
        have BC12 := mz hp0.1
        have BR12 := mz (blk_one BR11.out hp0.2.2 HGE.out.2.2)
        have SB5_12 := mz (R_one SB5_11.out hp0.2.2 (by have := HLSB5.out; omega))
        have SB6_12 := mz (R_one SB6_11.out hp0.2.2 (by have := HLSB6.out; omega))
        have SO_12 := mz (R_one SO_11.out hp0.2.2 (by have := HLSO.out; omega))
        have SX1_12 := mz (R_one SX1_11.out hp0.2.2 (by have := HLSX1.out; omega))
        have SY1_12 := mz (R_one SY1_11.out hp0.2.2 (by have := HLSY1.out; omega))
        have BE_12 := mz (blk_one BE_11.out hp0.2.2 HNBE.out)
        have Z12 := mz (Nat.le_trans (Nat.le_refl _) hp0.2.2.1)
        clear hp0
        generalize w11.setCell ⟨gc, 1, none⟩ (.string x) = w12 at HB12 BC12 BR12  Z12  SB5_12 SB6_12 SO_12 SX1_12 SY1_12 BE_12 ⊢
        cases ok with
        | false =>
         have hv : hearV ⟨i, t, v, q, true, s5, s6, false⟩ e0 e1 op = zeroC := by rw [HVt.out]; unfold hearT; simp only [HAP.out]; rfl
         have h0 := H0.out
         rw [hv] at h0
         simp only [zeroC, Prod.mk.injEq] at h0
         obtain ⟨rfl, rfl, rfl, rfl, rfl, rfl, rfl, rfl, rfl⟩ := h0
         clear hv
         obtain ⟨u0, u1, u2, u3, u4, u5, u6, u7⟩ := cells8 BR12.out
         obtain ⟨z0, z1, z2, z3, z4, z5, z6, z7⟩ := froz8 BR12.out
         go_wp2_with fail
         have hp := put8 (.int .i64 0) (.string ⟨#[]⟩) (.int .i64 0) (.int .i64 0) (.bool false) (.slice none 0 0) (.slice none 0 0) (.bool false) HB12.out HGE.out.2.1 BR12.out
         (try simp only [Exit.inBlock, Exit.then])
         refine bodyPost_ret (results_ct rfl _ _ gr 45 _ (0, 0) _ rfl hp.1 Try.underlying45 rfl (by kernel_rfl)) rfl ?_
         exact ⟨.slice none 0 0, .slice none 0 0, rfl, Kd.R_nil _ _ _ _ _, Kd.R_nil _ _ _ _ _, hp.2.1⟩
        | true =>
         have HAP2 : Aside0 (applyV py1 t = (x, true)) := ⟨HAP.out⟩
         have HXS : Aside0 (x.size ≤ maxLen) := ⟨by have h := applyV_size py1 t; rw [HAP2.out] at h; simp only at h; unfold maxLen; omega⟩
         have HV : Aside0 (hearV ⟨i, t, v, q, true, s5, s6, false⟩ e0 e1 op = goodC ⟨i, x, v + 1, q, true, px1, s6, false⟩) := ⟨by rw [HVt.out]; unfold hearT; simp only [HAP2.out]; rfl⟩
         have hgc := goodClient_val ⟨i, x, v + 1, q, true, px1, s6, false⟩ HXS.out HZ1.out.1 H6.out
         simp only at hgc
         have HGC := mz (hgc.trans (congrArg some (HV.out.symm.trans H0.out)))
         clear hgc
         obtain ⟨x0, x1, x2, x3, x4, x5, x6, x7⟩ := cells8 BC12.out
         obtain ⟨y0, y1, y2, y3, y4, y5, y6, y7⟩ := froz8 BC12.out
         go_wp2_with fail
         clear x0 y0 x1 y1 x2 y2 x3 y3 x4 y4 x5 y5 x6 y6 x7 y7
         have q5 := SX1_12.out
         have q6 := SB6_12.out
         have qd : ∀ k, (w8.heap.size ≤ k ∧ k < w9.heap.size) → ¬ (w4.heap.size ≤ k ∧ k < w5.heap.size) := fun k h h' => by have := h.1; have := h.2; have := h'.1; have := h'.2; skip; have := Z6.out; have := Z7.out; have := Z8.out; omega
         have qm5 : ∀ k, (w8.heap.size ≤ k ∧ k < w9.heap.size) → (w8.heap.size ≤ k ∧ k < w9.heap.size) := fun _ h => h
         have qm6 : ∀ k, (w4.heap.size ≤ k ∧ k < w5.heap.size) → (w4.heap.size ≤ k ∧ k < w5.heap.size) := fun _ h => h
         refine (impl_goodClient.calls i x (v + 1) q true _ _ px1 _ _ s6 false _ _ _ _ _ _ _ _ _ w w12 HB12.out q5 qd q6 (fun k h h' => qd k h' h) HGC.out).mono ?_
         rintro e w13 ⟨v5, v6, rfl, hR5, hR6, hb, hk⟩
         obtain ⟨J5, J5c, eo⟩ := Kd.R_slice hR5
         subst eo
         obtain ⟨J6, J6c, eo⟩ := Kd.R_slice hR6
         subst eo
         have BR13 := mz (blk_kp BR12.out hk (fun h => by have := HLRSX1.out; have := HLRSB6.out; rcases h with h | h; (· have := (qm5 _ h).1; omega); (· have := (qm6 _ h).1; omega)))
         have HB13 := mz hb
         have HW : Aside0 (gr < w12.heap.size) := ⟨blk_lt BR12.out⟩
         have Q5 := mz hR5
         have Q6 := mz hR6
         have QM := mz (And.intro qm5 qm6)
         clear hR5 hR6 hb hk q5 q6 qd qm5 qm6
         obtain ⟨u0, u1, u2, u3, u4, u5, u6, u7⟩ := cells8 BR13.out
         obtain ⟨z0, z1, z2, z3, z4, z5, z6, z7⟩ := froz8 BR13.out
         go_wp2_with fail
         have hp := put8 (.int .i64 r1) (.string r2) (.int .i64 r3) (.int .i64 r4) (.bool r5) (.slice J5 r6.length J5c) (.slice J6 r7.length J6c) (.bool r8) HB13.out HGE.out.2.1 BR13.out
         (try simp only [Exit.inBlock, Exit.then])
         refine bodyPost_ret (results_ct rfl _ _ gr 45 _ (0, 0) _ rfl hp.1 Try.underlying45 rfl (by kernel_rfl)) rfl ?_
         have hl5 := HLRSX1.out
         have hl6 := HLRSB6.out
         have hlw := HW.out
         exact ⟨_, _, rfl, Kd.R_mono (Kd.R_step Q5.out (fun k h1 hlt => hp.2.2.2 k hlt (fun e => by rcases h1.1 with (h | h) | h; (· have := (QM.out.1 k h).1; omega); (· have := (QM.out.2 k h).1; omega); (· omega)))) (fun k h => h.2), Kd.R_mono (Kd.R_step Q6.out (fun k h1 hlt => hp.2.2.2 k hlt (fun e => by rcases h1.1 with (h | h) | h; (· have := (QM.out.1 k h).1; omega); (· have := (QM.out.2 k h).1; omega); (· omega)))) (fun k h => h.2), hp.2.1⟩
       | true =>
        go_wp2_with fail
        have hkt := implTransform_val s6 py1 H6.out HZ1.out.2
        have hz := @trV_sized s6 py1
        have hg := @trV_good s6 py1
        obtain ⟨⟨px2, py2, tk2⟩, hx⟩ : ∃ p, trV s6 py1 = p := ⟨_, rfl⟩
        rw [hx] at hkt hz hg
        simp only at hz hg
        have HKT2 := mz hkt
        have HTV2 := mz hx
        have HZ2 := mz hz
        have HGD2 := mz hg
        clear hkt hz hg hx
        clear x0 y0 x1 y1 x2 y2 x3 y3 x4 y4 x5 y5 x6 y6 x7 y7
        refine (impl_TransformOps.calls B6 B6c s6 Y1 Y1c py1 px2 py2 tk2 _ (Kd.R_reads' SB6_10.out).2.2 (Kd.R_reads' SB6_10.out).2.1 (Kd.R_reads' SY1_10.out).2.2 (Kd.R_reads' SY1_10.out).2.1 HKT2.out).mono ?_
        rintro e w11 ⟨vx, vy, rfl, hRx, hRy, hb⟩
        have HB11 := mz (below_step HB10.out hb)
        have BC11 := mz (blk_below BC10.out hb)
        have BR11 := mz (blk_below BR10.out hb)
        have BE_11 := mz (blk_below BE_10.out hb)
        have SB5_11 := mz (Kd.R_below SB5_10.out hb)
        have SB6_11 := mz (Kd.R_below SB6_10.out hb)
        have SO_11 := mz (Kd.R_below SO_10.out hb)
        have SX1_11 := mz (Kd.R_below SX1_10.out hb)
        have SY1_11 := mz (Kd.R_below SY1_10.out hb)
        have Z11 := mz hb.size
        clear hb
        obtain ⟨X2, X2c, eo⟩ := Kd.R_slice hRx
        subst eo
        have SX2 := mz (R_new hRx HB10.out.size)
        have HLSX2 : Aside0 (gc < w10.heap.size) := ⟨blk_lt BC10.out⟩
        have HLRSX2 : Aside0 (gr < w10.heap.size) := ⟨blk_lt BR10.out⟩
        clear hRx
        obtain ⟨Y2, Y2c, eo⟩ := Kd.R_slice hRy
        subst eo
        have SY2 := mz (R_new hRy HB10.out.size)
        have HLSY2 : Aside0 (gc < w10.heap.size) := ⟨blk_lt BC10.out⟩
        have HLRSY2 : Aside0 (gr < w10.heap.size) := ⟨blk_lt BR10.out⟩
        clear hRy
        obtain ⟨x0, x1, x2, x3, x4, x5, x6, x7⟩ := cells8 BC11.out
        obtain ⟨y0, y1, y2, y3, y4, y5, y6, y7⟩ := froz8 BC11.out
        go_upto_region 16 with fail
        clear x0 y0 x1 y1 x2 y2 x3 y3 x4 y4 x5 y5 x6 y6 x7 y7
        have hp0 := put1 6 (.slice X2 px2.length X2c) #[.int .i64 i, .string t, .int .i64 (v + 1), .int .i64 q, .bool true, .slice X1 px1.length X1c, .slice X2 px2.length X2c, .bool true] rfl HB11.out HGE.out.1 BC11.out
        have HB12 := mz hp0.2.1
        have BC12 := mz hp0.1
        have BR12 := mz (blk_one BR11.out hp0.2.2 HGE.out.2.2)
        have SB5_12 := mz (R_one SB5_11.out hp0.2.2 (by have := HLSB5.out; omega))
        have SB6_12 := mz (R_one SB6_11.out hp0.2.2 (by have := HLSB6.out; omega))
        have SO_12 := mz (R_one SO_11.out hp0.2.2 (by have := HLSO.out; omega))
        have SX1_12 := mz (R_one SX1_11.out hp0.2.2 (by have := HLSX1.out; omega))
        have SY1_12 := mz (R_one SY1_11.out hp0.2.2 (by have := HLSY1.out; omega))
        have SX2_12 := mz (R_one SX2.out hp0.2.2 (by have := HLSX2.out; omega))
        have SY2_12 := mz (R_one SY2.out hp0.2.2 (by have := HLSY2.out; omega))
        have BE_12 := mz (blk_one BE_11.out hp0.2.2 HNBE.out)
        have Z12 := mz (Nat.le_trans (Nat.le_refl _) hp0.2.2.1)
        clear hp0
        generalize w11.setCell ⟨gc, 6, none⟩ (.slice X2 px2.length X2c) = w12 at HB12 BC12 BR12  Z12  SB5_12 SB6_12 SO_12 SX1_12 SY1_12 SX2_12 SY2_12 BE_12 ⊢
        cases tk2 with
        | false =>
         have hv : hearV ⟨i, t, v, q, true, s5, s6, true⟩ e0 e1 op = zeroC := by rw [HVd.out]; unfold hearD; simp only [if_true, HTV2.out]; rfl
         have h0 := H0.out
         rw [hv] at h0
         simp only [zeroC, Prod.mk.injEq] at h0
         obtain ⟨rfl, rfl, rfl, rfl, rfl, rfl, rfl, rfl, rfl⟩ := h0
         clear hv
         obtain ⟨u0, u1, u2, u3, u4, u5, u6, u7⟩ := cells8 BR12.out
         obtain ⟨z0, z1, z2, z3, z4, z5, z6, z7⟩ := froz8 BR12.out
         go_wp2_with fail
         have hp := put8 (.int .i64 0) (.string ⟨#[]⟩) (.int .i64 0) (.int .i64 0) (.bool false) (.slice none 0 0) (.slice none 0 0) (.bool false) HB12.out HGE.out.2.1 BR12.out
         (try simp only [Exit.inBlock, Exit.then])
         refine bodyPost_ret (results_ct rfl _ _ gr 45 _ (0, 0) _ rfl hp.1 Try.underlying45 rfl (by kernel_rfl)) rfl ?_
         exact ⟨.slice none 0 0, .slice none 0 0, rfl, Kd.R_nil _ _ _ _ _, Kd.R_nil _ _ _ _ _, hp.2.1⟩
        | true =>
         have HVt : Aside0 (hearV ⟨i, t, v, q, true, s5, s6, true⟩ e0 e1 op = hearT ⟨i, t, v, q, true, s5, s6, true⟩ px1 px2 py2) := ⟨by rw [HVd.out]; unfold hearD; simp only [if_true, HTV2.out]⟩
         have HOP2 : Aside0 (opB py2 = true) := ⟨(HGD2.out (by trivial)).2⟩
         obtain ⟨x0, x1, x2, x3, x4, x5, x6, x7⟩ := cells8 BC12.out
         obtain ⟨y0, y1, y2, y3, y4, y5, y6, y7⟩ := froz8 BC12.out
         go_wp2_with fail
         obtain ⟨ka, hka⟩ := Ev.rounds (implApply_ev py2 t (opB_sized HOP2.out) H1.out)
         obtain ⟨⟨x, ok⟩, hx⟩ : ∃ p, applyV py2 t = p := ⟨_, rfl⟩
         rw [hx] at hka
         have HKA := mz hka
         have HAP := mz hx
         clear hka hx
         clear x0 y0 x1 y1 x2 y2 x3 y3 x4 y4 x5 y5 x6 y6 x7 y7
         refine (impl_ApplyOp.calls ka Y2 Y2c py2 t x ok _ (Kd.R_reads' SY2_12.out).2.2 (Kd.R_reads' SY2_12.out).2.1 HKA.out).mono ?_
         rintro e w13 ⟨rfl, hb⟩
         have HB13 := mz (below_step HB12.out hb)
         have BC13 := mz (blk_below BC12.out hb)
         have BR13 := mz (blk_below BR12.out hb)
         have BE_13 := mz (blk_below BE_12.out hb)
         have SB5_13 := mz (Kd.R_below SB5_12.out hb)
         have SB6_13 := mz (Kd.R_below SB6_12.out hb)
         have SO_13 := mz (Kd.R_below SO_12.out hb)
         have SX1_13 := mz (Kd.R_below SX1_12.out hb)
         have SY1_13 := mz (Kd.R_below SY1_12.out hb)
         have SX2_13 := mz (Kd.R_below SX2_12.out hb)
         have SY2_13 := mz (Kd.R_below SY2_12.out hb)
         have Z13 := mz hb.size
         clear hb
         obtain ⟨x0, x1, x2, x3, x4, x5, x6, x7⟩ := cells8 BC13.out
         obtain ⟨y0, y1, y2, y3, y4, y5, y6, y7⟩ := froz8 BC13.out
         go_upto_region 18 with fail
         clear x0 y0 x1 y1 x2 y2 x3 y3 x4 y4 x5 y5 x6 y6 x7 y7
         have hp0 := put1 1 (.string x) #[.int .i64 i, .string x, .int .i64 (v + 1), .int .i64 q, .bool true, .slice X1 px1.length X1c, .slice X2 px2.length X2c, .bool true] rfl HB13.out HGE.out.1 BC13.out
         have HB14 := mz hp0.2.1
         have BC14 := mz hp0.1
         have BR14 := mz (blk_one BR13.out hp0.2.2 HGE.out.2.2)
         have SB5_14 := mz (R_one SB5_13.out hp0.2.2 (by have := HLSB5.out; omega))
         have SB6_14 := mz (R_one SB6_13.out hp0.2.2 (by have := HLSB6.out; omega))
         have SO_14 := mz (R_one SO_13.out hp0.2.2 (by have := HLSO.out; omega))
         have SX1_14 := mz (R_one SX1_13.out hp0.2.2 (by have := HLSX1.out; omega))
         have SY1_14 := mz (R_one SY1_13.out hp0.2.2 (by have := HLSY1.out; omega))
         have SX2_14 := mz (R_one SX2_13.out hp0.2.2 (by have := HLSX2.out; omega))
         have SY2_14 := mz (R_one SY2_13.out hp0.2.2 (by have := HLSY2.out; omega))
         have BE_14 := mz (blk_one BE_13.out hp0.2.2 HNBE.out)
         have Z14 := mz (Nat.le_trans (Nat.le_refl _) hp0.2.2.1)
         clear hp0
         generalize w13.setCell ⟨gc, 1, none⟩ (.string x) = w14 at HB14 BC14 BR14  Z14  SB5_14 SB6_14 SO_14 SX1_14 SY1_14 SX2_14 SY2_14 BE_14 ⊢
         cases ok with
         | false =>
          have hv : hearV ⟨i, t, v, q, true, s5, s6, true⟩ e0 e1 op = zeroC := by rw [HVt.out]; unfold hearT; simp only [HAP.out]; rfl
          have h0 := H0.out
          rw [hv] at h0
          simp only [zeroC, Prod.mk.injEq] at h0
          obtain ⟨rfl, rfl, rfl, rfl, rfl, rfl, rfl, rfl, rfl⟩ := h0
          clear hv
          obtain ⟨u0, u1, u2, u3, u4, u5, u6, u7⟩ := cells8 BR14.out
          obtain ⟨z0, z1, z2, z3, z4, z5, z6, z7⟩ := froz8 BR14.out
          go_wp2_with fail
          have hp := put8 (.int .i64 0) (.string ⟨#[]⟩) (.int .i64 0) (.int .i64 0) (.bool false) (.slice none 0 0) (.slice none 0 0) (.bool false) HB14.out HGE.out.2.1 BR14.out
          (try simp only [Exit.inBlock, Exit.then])
          refine bodyPost_ret (results_ct rfl _ _ gr 45 _ (0, 0) _ rfl hp.1 Try.underlying45 rfl (by kernel_rfl)) rfl ?_
          exact ⟨.slice none 0 0, .slice none 0 0, rfl, Kd.R_nil _ _ _ _ _, Kd.R_nil _ _ _ _ _, hp.2.1⟩
         | true =>
          have HAP2 : Aside0 (applyV py2 t = (x, true)) := ⟨HAP.out⟩
          have HXS : Aside0 (x.size ≤ maxLen) := ⟨by have h := applyV_size py2 t; rw [HAP2.out] at h; simp only at h; unfold maxLen; omega⟩
          have HV : Aside0 (hearV ⟨i, t, v, q, true, s5, s6, true⟩ e0 e1 op = goodC ⟨i, x, v + 1, q, true, px1, px2, true⟩) := ⟨by rw [HVt.out]; unfold hearT; simp only [HAP2.out]; rfl⟩
          have hgc := goodClient_val ⟨i, x, v + 1, q, true, px1, px2, true⟩ HXS.out HZ1.out.1 HZ2.out.1
          simp only at hgc
          have HGC := mz (hgc.trans (congrArg some (HV.out.symm.trans H0.out)))
          clear hgc
          obtain ⟨x0, x1, x2, x3, x4, x5, x6, x7⟩ := cells8 BC14.out
          obtain ⟨y0, y1, y2, y3, y4, y5, y6, y7⟩ := froz8 BC14.out
          go_wp2_with fail
          clear x0 y0 x1 y1 x2 y2 x3 y3 x4 y4 x5 y5 x6 y6 x7 y7
          have q5 := SX1_14.out
          have q6 := SX2_14.out
          have qd : ∀ k, (w8.heap.size ≤ k ∧ k < w9.heap.size) → ¬ (w10.heap.size ≤ k ∧ k < w11.heap.size) := fun k h h' => by have := h.1; have := h.2; have := h'.1; have := h'.2; skip; have := Z10.out; omega
          have qm5 : ∀ k, (w8.heap.size ≤ k ∧ k < w9.heap.size) → (w8.heap.size ≤ k ∧ k < w9.heap.size) := fun _ h => h
          have qm6 : ∀ k, (w10.heap.size ≤ k ∧ k < w11.heap.size) → (w10.heap.size ≤ k ∧ k < w11.heap.size) := fun _ h => h
          refine (impl_goodClient.calls i x (v + 1) q true _ _ px1 _ _ px2 true _ _ _ _ _ _ _ _ _ w w14 HB14.out q5 qd q6 (fun k h h' => qd k h' h) HGC.out).mono ?_
          rintro e w15 ⟨v5, v6, rfl, hR5, hR6, hb, hk⟩
          obtain ⟨J5, J5c, eo⟩ := Kd.R_slice hR5
          subst eo
          obtain ⟨J6, J6c, eo⟩ := Kd.R_slice hR6
          subst eo
          have BR15 := mz (blk_kp BR14.out hk (fun h => by have := HLRSX1.out; have := HLRSX2.out; rcases h with h | h; (· have := (qm5 _ h).1; omega); (· have := (qm6 _ h).1; omega)))
          have HB15 := mz hb
          have HW : Aside0 (gr < w14.heap.size) := ⟨blk_lt BR14.out⟩
          have Q5 := mz hR5
          have Q6 := mz hR6
          have QM := mz (And.intro qm5 qm6)
          clear hR5 hR6 hb hk q5 q6 qd qm5 qm6
          obtain ⟨u0, u1, u2, u3, u4, u5, u6, u7⟩ := cells8 BR15.out
          obtain ⟨z0, z1, z2, z3, z4, z5, z6, z7⟩ := froz8 BR15.out
          go_wp2_with fail
          have hp := put8 (.int .i64 r1) (.string r2) (.int .i64 r3) (.int .i64 r4) (.bool r5) (.slice J5 r6.length J5c) (.slice J6 r7.length J6c) (.bool r8) HB15.out HGE.out.2.1 BR15.out
          (try simp only [Exit.inBlock, Exit.then])
          refine bodyPost_ret (results_ct rfl _ _ gr 45 _ (0, 0) _ rfl hp.1 Try.underlying45 rfl (by kernel_rfl)) rfl ?_
          have hl5 := HLRSX1.out
          have hl6 := HLRSX2.out
          have hlw := HW.out
          exact ⟨_, _, rfl, Kd.R_mono (Kd.R_step Q5.out (fun k h1 hlt => hp.2.2.2 k hlt (fun e => by rcases h1.1 with (h | h) | h; (· have := (QM.out.1 k h).1; omega); (· have := (QM.out.2 k h).1; omega); (· omega)))) (fun k h => h.2), Kd.R_mono (Kd.R_step Q6.out (fun k h1 hlt => hp.2.2.2 k hlt (fun e => by rcases h1.1 with (h | h) | h; (· have := (QM.out.1 k h).1; omega); (· have := (QM.out.2 k h).1; omega); (· omega)))) (fun k h => h.2), hp.2.1⟩

def impl_HearEntry.f (a0_0 : Int) (a0_1 : ByteArray) (a0_2 : Int) (a0_3 : Int) (a0_4 : Bool) (l0_5 : List Part) (l0_6 : List Part) (a0_7 : Bool) (a1_0 : Int) (a1_1 : Int) (l1_2 : List Part) : Option (Int × ByteArray × Int × Int × Bool × List Part × List Part × Bool × Bool) := if a0_1.size ≤ maxLen ∧ sizedP l0_5 = true ∧ sizedP l0_6 = true ∧ sizedP l1_2 = true then some (hearV ⟨a0_0, a0_1, a0_2, a0_3, a0_4, l0_5, l0_6, a0_7⟩ a1_0 a1_1 l1_2) else none
theorem impl_HearEntry.calls (a0_0 : Int) (a0_1 : ByteArray) (a0_2 : Int) (a0_3 : Int) (a0_4 : Bool) (A0_5 : Option Addr) (c0_5 : Nat) (l0_5 : List Part) (A0_6 : Option Addr) (c0_6 : Nat) (l0_6 : List Part) (a0_7 : Bool) (a1_0 : Int) (a1_1 : Int) (A1_2 : Option Addr) (c1_2 : Nat) (l1_2 : List Part) (r1 : Int) (r2 : ByteArray) (r3 : Int) (r4 : Int) (r5 : Bool) (r6 : List Part) (r7 : List Part) (r8 : Bool) (r9 : Bool) (w : World) (hr0_5 : Kd.C k86 w A0_5 l0_5.length l0_5) (hc0_5 : l0_5.length ≤ c0_5) (hr0_6 : Kd.C k86 w A0_6 l0_6.length l0_6) (hc0_6 : l0_6.length ≤ c0_6) (hr1_2 : Kd.C k86 w A1_2 l1_2.length l1_2) (hc1_2 : l1_2.length ≤ c1_2) (h : impl_HearEntry.f a0_0 a0_1 a0_2 a0_3 a0_4 l0_5 l0_6 a0_7 a1_0 a1_1 l1_2 = some (r1, r2, r3, r4, r5, r6, r7, r8, r9)) :
  Calls Try.prog 29 #[.agg #[.int .i64 a0_0, .string a0_1, .int .i64 a0_2, .int .i64 a0_3, .bool a0_4, .slice A0_5 l0_5.length c0_5, .slice A0_6 l0_6.length c0_6, .bool a0_7], .agg #[.int .i64 a1_0, .int .i64 a1_1, .slice A1_2 l1_2.length c1_2]] w fun e w' => ∃ v5_ v6_ : Value, e = .returned (.tuple #[.agg #[.int .i64 r1, .string r2, .int .i64 r3, .int .i64 r4, .bool r5, v5_, v6_, .bool r8], .bool r9]) ∧ Kd.R k86 86 w' w.heap.size (fun k_ => some k_ ≠ (v6_ : Value).ownBlock) v5_ r6 ∧ Kd.R k86 86 w' w.heap.size (fun k_ => some k_ ≠ (v5_ : Value).ownBlock) v6_ r7 ∧ Below w.heap.size w w' := by
 unfold impl_HearEntry.f at h
 by_cases hs : a0_1.size ≤ maxLen ∧ sizedP l0_5 = true ∧ sizedP l0_6 = true ∧ sizedP l1_2 = true
 ·rw [if_pos hs] at h
  exact implHear_walk a0_0 a0_1 a0_2 a0_3 a0_4 A0_5 c0_5 l0_5 A0_6 c0_6 l0_6 a0_7 a1_0 a1_1 A1_2 c1_2 l1_2 r1 r2 r3 r4 r5 r6 r7 r8 r9 w hr0_5 hc0_5 hr0_6 hc0_6 hr1_2 hc1_2 hs.1 hs.2.1 hs.2.2.1 hs.2.2.2 (Option.some.inj h)
 ·rw [if_neg hs] at h
  exact absurd h (by simp)
section
attribute [local go_sem] max2_int min2_int max_two min_two max_three min_three max_four min_four
def laws_markEntry.f (k : Nat) (a0_0 : Int) (a0_1 : Int) (l0_2 : List (S86)) (a1 : Int) : Option (Int × (List (S86))) := (laws_markPartS.f k l0_2 a1).bind fun bt102 => (some (bt102.1, bt102.2))
set_option maxHeartbeats 8000000 in
set_option maxRecDepth 100000 in
theorem laws_markEntry.calls (k : Nat) (a0_0 : Int) (a0_1 : Int) (P0_2_ : Nat → Prop) (u9000_ : Value) (l0_2 : List (S86)) (a1 : Int) (r1 : Int) (r2 : List (S86)) (w0 w : World) (hB : Below w0.heap.size w0 w) (ho0_2 : Kd.R k86 86 w w0.heap.size P0_2_ u9000_ l0_2) (h : laws_markEntry.f k a0_0 a0_1 l0_2 a1 = some (r1, r2)) :
  Calls Try.prog 31 #[.agg #[.int .i64 a0_0, .int .i64 a0_1, u9000_], .int .i64 a1] w fun e w' => e = .returned (.int .i64 r1) ∧ Kd.R k86 86 w' w0.heap.size (fun k_ => (P0_2_ k_ ∨ w.heap.size ≤ k_)) u9000_ r2 ∧ Below w0.heap.size w0 w' ∧ Kept w w' (fun k_ => P0_2_ k_) := by
 have hu57 := Try.underlying57
 have HO0_2 := mz (show Kd.R k86 86 w w0.heap.size (fun k_ => (P0_2_ k_ ∨ w.heap.size ≤ k_)) u9000_ l0_2 from Kd.R_mono ho0_2 (fun k_ hk => (.inl hk)))
 have HK := mz (Kept.refl w (fun k_ => P0_2_ k_))
 have HW0 := mz hB.size
 have HB := mz hB
 clear hB
 have H : ((laws_markPartS.f k l0_2 a1).bind fun bt102 => (some (bt102.1, bt102.2))) = some (r1, r2) := h
 clear h
 replace H := be0_ H
 obtain ⟨⟨t102, t103⟩, A30, H⟩ := H
 replace H : (some (t102, t103)) = some (r1, r2) := H
 have A3 := mz A30
 clear A30
 simp only [Option.some.injEq, Prod.mk.injEq] at H
 obtain ⟨rfl, rfl⟩ := H
 obtain ⟨Ao4, co4, eo4⟩ := Kd.R_slice HO0_2.out
 subst eo4
 go_enter Try.func31, Try.ntmps31
 go_wp2_with (first | ((with_reducible refine gate_dst (N := 2) rfl ?_); refine bz_ 2 #[.int .i64 a0_0, .int .i64 a0_1, .slice Ao4 l0_2.length co4] 57 ?_; intro gb101 hg w5 hbox hb; have n0_ := mz (Kd.R_below a23_ hb); have n1_ := mz (Kept.below (S := (fun k_ => P0_2_ k_)) a13_ hb); have n2_ := mz (bs0_ hb); have n3_ := mz (hbox); have n4_ := mz ((by rw [hg]; exact (by first | exact HK.out.1 | exact (show Kept w _ (fun k_ => P0_2_ k_) from by repeat (first | (with_reducible first | exact HK.out | apply Kept.alloc | apply Kept.drewN | apply Kept.drew) | exact HK.out)).1) : w.heap.size ≤ gb101)); have n5_ := mz ((by rw [hg]; exact bz1_ : w0.heap.size ≤ gb101)); clear HO0_2; clear HK; clear HB; have HO0_2 := n0_; have HK := n1_; have HB := n2_; have BK101 := n3_; have GW101 := n4_; have GE101 := n5_; clear n0_ n1_ n2_ n3_ n4_ n5_; clear hb hbox hg; have hcz6_0 := bk_ BK101.out 0 (.int .i64 a0_0); have hcz6_1 := bk_ BK101.out 1 (.int .i64 a0_1); have hcz6_2 := bk_ BK101.out 2 (.slice Ao4 l0_2.length co4); have hfz6_0 := blk_frozen BK101.out 0; have hfz6_1 := blk_frozen BK101.out 1; have hfz6_2 := blk_frozen BK101.out 2) | ((with_reducible refine gate_callee (f := 17) rfl ?_); refine goesL_ (some 8) rfl rfl Try.func17 (by kernel_rfl) rfl #[.slice Ao4 l0_2.length co4, .int .i64 a1] rfl a11_ ?_; (with_reducible refine (laws_markPartS.calls k (fun k_ => some k_ = (.slice Ao4 l0_2.length co4 : Value).ownBlock) (.slice Ao4 l0_2.length co4) l0_2 a1 t102 t103 w0 _ ?side1 ?side2 A3.out).mono ?_); (case side1 => repeat (first | (with_reducible first | exact HB.out | apply below_alloc | apply pw_below_drewN | apply below_drew1 | refine below_set ?_ GE101.out) | exact HB.out)); (case side2 => exact Kd.R_tight rfl HO0_2.out); rintro e w7 ⟨rfl, hy0, hb, hkp⟩; refine ⟨_, rfl, ?_⟩; have n0_ := mz (Kd.R_reok rfl hy0 (fun k_ e_ => HO0_2.out.1 k_ e_)); have n1_ := mz (blk_kept a14_ hkp (fun hs_ => (fun e_ => (Kd.R_ne HO0_2.out BK101.out (by decide)) e_) hs_)); have n2_ := mz (Kept.then_ (S := (fun k_ => P0_2_ k_)) a7_ hkp (fun k_ hs_ => (fun e_ => (HO0_2.out.1 k_ e_.symm)) hs_)); have n3_ := mz (hb); clear HO0_2; clear BK101; clear HK; clear HB; have HO0_2 := n0_; have BK101 := n1_; have HK := n2_; have HB := n3_; clear n0_ n1_ n2_ n3_; (try clear hb); (try clear hkp); (try clear hy0)))
 go_ret
 exact ⟨a27_, a23_, a8_, a7_⟩
end
theorem blk_keptE {W W' : World} {g : Nat} {o : Obj} {ok : Nat → Prop} (h : W.heap[g]? = some o) (hk : Kept W W' ok) (hg : ¬ ok g) : W'.heap[g]? = some o := (hk.2 g (blk_lt h) hg).trans h
theorem R_keptE {W W' : World} {base lo hi : Nat} {v : Value} {l : List Part} {ok : Nat → Prop} (h : Kd.R k86 86 W base (fun k => lo ≤ k ∧ k < hi) v l) (hk : Kept W W' ok) (hd : ∀ k, lo ≤ k → k < hi → ¬ ok k) : Kd.R k86 86 W' base (fun k => lo ≤ k ∧ k < hi) v l :=
 Kd.R_step h (fun k h1 hlt => hk.2 k hlt (hd k h1.1 h1.2))
theorem kept_sub {w w' : World} {S S' : Nat → Prop} (h : Kept w w' S) (hs : ∀ k, S k → S' k) : Kept w w' S' := ⟨h.1, fun k hk hn => h.2 k hk (fun e => hn (hs k e))⟩
theorem R_wide {W : World} {base lo hi lo' hi' : Nat} {v : Value} {l : List Part} (h : Kd.R k86 86 W base (fun k => lo ≤ k ∧ k < hi) v l) (h1 : lo' ≤ lo) (h2 : hi ≤ hi') : Kd.R k86 86 W base (fun k => lo' ≤ k ∧ k < hi') v l := Kd.R_mono h (fun k hk => ⟨Nat.le_trans h1 hk.1, Nat.lt_of_lt_of_le hk.2 h2⟩)
theorem markEntry_ev (e0 e1 : Int) (l : List Part) (n : Int) (h0 : 0 ≤ n) (hb : n + 3 * l.length ≤ 4000000000000000) : Ev (fun k => laws_markEntry.f k e0 e1 l n) (n + 3 * (l.length : Int), markP n l) := by
 unfold laws_markEntry.f
 exact Ev.bind (markPartS_ev l n h0 hb) (Ev.now _)
theorem hearV_len (c : Client) (e0 e1 : Int) (op : List Part) : (hearV c e0 e1 op).2.2.2.2.2.1.length ≤ 60 ∧ (hearV c e0 e1 op).2.2.2.2.2.2.1.length ≤ 60 := by
 have hz : (zeroC).2.2.2.2.2.1.length ≤ 60 ∧ (zeroC).2.2.2.2.2.2.1.length ≤ 60 := ⟨Nat.zero_le _, Nat.zero_le _⟩
 have hT : ∀ s5 s6 o, (hearT c s5 s6 o).2.2.2.2.2.1.length ≤ 60 ∧ (hearT c s5 s6 o).2.2.2.2.2.2.1.length ≤ 60 := by
  intro s5 s6 o; unfold hearT; split
  ·exact goodC_len _
  ·exact hz
 have hD : ∀ s5 o, (hearD c s5 o).2.2.2.2.2.1.length ≤ 60 ∧ (hearD c s5 o).2.2.2.2.2.2.1.length ≤ 60 := by
  intro s5 o; unfold hearD; split
  ·split
   ·exact hT _ _ _
   ·exact hz
  ·exact hT _ _ _
 unfold hearV
 split
 ·split
  ·exact goodC_len _
  ·unfold hearO; split
   ·split
    ·exact hD _ _
    ·exact hz
   ·exact hD _ _
 ·exact hz
theorem R_off {W W' : World} {base lo hi g : Nat} {v : Value} {l : List Part} (h : Kd.R k86 86 W base (fun k => lo ≤ k ∧ k < hi) v l) (hk : Kept W W' (fun x => x = g)) (ho : g < lo ∨ hi ≤ g) : Kd.R k86 86 W' base (fun k => lo ≤ k ∧ k < hi) v l :=
 Kd.R_step h (fun k h1 hlt => hk.2 k hlt (by intro e; have a := h1.1; have b := h1.2; omega))
section
variable {P : Program} {ops : Array Oper} {Q : Exit → Act → World → Prop} {md : Region.Mode} {S : World → Prop} {fuel : Nat} {listed : Array Bool} {a : Act} {w : World} {oi oj : Oper}
theorem tCB (i j : Nat) {f : FuncId} {vs : Array Value} {T : Ending → World → Prop} (cs : Array Value) (t : TypeId) (hc : Calls P f vs w T)
  (h : ∀ e w', T e w' → ∃ v, e = .returned v ∧ S w' ∧ ∀ a', a.put oi.dst v = a' → (S w' → wpAnyH P md ops Q S fuel (listed.setIfInBounds i true) a' w'))
  (h2 : ∀ g, g = w.heap.size → ∀ w1, w1.heap[g]? = some (.cells cs t (0, 0)) → Below w.heap.size w w1 → S w1 ∧ ∀ a', a.put oj.dst (.pointer (some ⟨g, 0, none⟩)) = a' → (S w1 → wpAnyH P md ops Q S fuel (listed.setIfInBounds j true) a' w1))
  (hi : ops[i]? = some oi := by rfl) (hj : ops[j]? = some oj := by rfl) (hr : Region.ready md ops listed = [i, j] := by kernel_rfl)
  (hw : Region.wanted oi (yielded ops a.tmps) = true := by rfl) (hw2 : Region.wanted oj (yielded ops a.tmps) = true := by rfl)
  (hrun : (execOp a.eval oi).run P w = .ok (.enter f vs) w := by (first | kernel_rfl | (go_simp; rfl)))
  (hrun2 : (execOp a.eval oj).run P w = .ok (.value (.pointer (some ⟨w.heap.size, 0, none⟩))) (w.alloc (.cells cs t (0, 0))) := by (first | (go_simp; done) | (go_simp; rfl))) : wpAnyH P md ops Q S (fuel + 1) listed a w := by
 refine wpAnyH_ready hr (by simp) (AllReadyH.cons hi (fun K hK => ?_) (AllReadyH.cons hj (fun K hK => ?_) AllReadyH.nil))
 ·rw [if_pos hw]
  unfold Oper.wp
  rw [hrun, Oper.upon_enter]
  refine hc.mono fun e w' hT => ?_
  obtain ⟨v, rfl, hS, hn⟩ := h e w' hT
  exact hK.out _ _ hS (hn _ rfl)
 ·rw [if_pos hw2]
  unfold Oper.wp
  rw [hrun2, Oper.upon_value]
  obtain ⟨hS, hn⟩ := h2 _ rfl _ (blk_new w _) (below_alloc (Below.refl _ _) _)
  exact hK.out _ _ hS (hn _ rfl)
end

set_option maxHeartbeats 16000000 in
set_option maxRecDepth 100000 in
theorem hl_walk (i : Int) (t : ByteArray) (v q : Int) (b : Bool) (A5 : Option Addr) (c5 : Nat) (s5 : List LPart) (A6 : Option Addr) (c6 : Nat) (s6 : List LPart) (d : Bool) (e0 e1 : Int) (A1 : Option Addr) (c1 : Nat) (op : List LPart) (w : World) (g5 : Kd.C k78 w A5 s5.length s5) (e5 : s5.length ≤ c5) (g6 : Kd.C k78 w A6 s6.length s6) (e6 : s6.length ≤ c6) (g1 : Kd.C k78 w A1 op.length op) (e1' : op.length ≤ c1) (hB : BigC ⟨i, t, v, q, b, s5, s6, d⟩) (hO : op.length ≤ maxLen) (hO2 : ∀ p ∈ op, p.f1.size ≤ maxLen ∧ p.f2.size ≤ maxLen) :
  Calls Try.prog 5 #[.agg #[.int .i64 i, .string t, .int .i64 v, .int .i64 q, .bool b, .slice A5 s5.length c5, .slice A6 s6.length c6, .bool d], .agg #[.int .i64 e0, .int .i64 e1, .slice A1 op.length c1]] w fun e w' => e = .returned (.bool true) ∧ Below w.heap.size w w' := by
 obtain ⟨r, hsz, hr, hg⟩ := szClient_ev ⟨i, t, v, q, b, s5, s6, d⟩ hB 1048576 (by omega) (by omega)
 obtain ⟨K1, hK1⟩ := Ev.rounds hsz
 simp only at hK1 hg
 have U5 := mz g5
 have E5 := mz e5
 have U6 := mz g6
 have E6 := mz e6
 have U1 := mz g1
 have E1 := mz e1'
 have HK1 := mz hK1
 clear g5 e5 g6 e6 g1 e1' hsz hK1 hB
 by_cases hneg : r < 0
 ·clear hg hO hO2
  go_enter Try.func5, Try.ntmps5
  go_upto_region 2 with (first | ((with_reducible refine gate_dst (N := 2) rfl ?_); refine bx 2 #[.int .i64 i, .string t, .int .i64 v, .int .i64 q, .bool b, .slice A5 s5.length c5, .slice A6 s6.length c6, .bool d] 42 ?_; intro gC hg w1 hbox hb; have HGC := mz hg; have HB1 := mz hb; have KCa := mz hbox; have Z1 := mz hb.size; have HLC : Aside0 (gC < w1.heap.size) := ⟨blk_lt hbox⟩; clear hg hb hbox) | ((with_reducible refine gate_dst (N := 3) rfl ?_); refine bx 3 #[.int .i64 e0, .int .i64 e1, .slice A1 op.length c1] 53 ?_; intro gE hg w2 hbox hb; have HGE := mz hg; have HB2 := mz (below_step HB1.out hb); have KC := mz (blk_below KCa.out hb); have KE := mz hbox; have Z2 := mz hb.size; have HLE : Aside0 (gE < w2.heap.size) := ⟨blk_lt hbox⟩; clear hg hb hbox KCa))
  (try simp only [Act.put, List.setIfInBounds_toArray, List.set_cons_zero, List.set_cons_succ])
  obtain ⟨C0, C1, C2, C3, C4, C5, C6, C7⟩ := cells8 KC.out
  go_wp2_with fail
  clear C0 C1 C2 C3 C4 C5 C6 C7
  refine (laws_szClient.calls K1 i t v q b A5 c5 s5 A6 c6 s6 d 1048576 r _ (Kd.C_below U5.out HB2.out) E5.out (Kd.C_below U6.out HB2.out) E6.out HK1.out).mono ?_
  rintro e w3 ⟨rfl, hb⟩
  have HB3 := mz (below_step HB2.out hb)
  have Z3 := mz (hb).size
  have KC_3 := mz (blk_below KC.out hb)
  have KE_3 := mz (blk_below KE.out hb)
  clear hb
  go_wp2_with fail
  go_ret
  exact ⟨rfl, HB3.out⟩
 ·obtain ⟨f1, f5, f5', f6, f6'⟩ := hg (by omega)
  obtain ⟨r2, hr2, hr2', hg2⟩ := szEntry_ev ⟨e0, e1, op⟩ hO hO2 r (by omega) (by omega)
  obtain ⟨K2, hK2⟩ := Ev.rounds hr2
  simp only at hK2 hg2
  have HK2 := mz hK2
  clear hr2 hK2 hg
  by_cases hneg2 : r2 < 0
  ·clear hg2 hO hO2 f1 f5 f5' f6 f6'
   go_enter Try.func5, Try.ntmps5
   go_upto_region 2 with (first | ((with_reducible refine gate_dst (N := 2) rfl ?_); refine bx 2 #[.int .i64 i, .string t, .int .i64 v, .int .i64 q, .bool b, .slice A5 s5.length c5, .slice A6 s6.length c6, .bool d] 42 ?_; intro gC hg w1 hbox hb; have HGC := mz hg; have HB1 := mz hb; have KCa := mz hbox; have Z1 := mz hb.size; have HLC : Aside0 (gC < w1.heap.size) := ⟨blk_lt hbox⟩; clear hg hb hbox) | ((with_reducible refine gate_dst (N := 3) rfl ?_); refine bx 3 #[.int .i64 e0, .int .i64 e1, .slice A1 op.length c1] 53 ?_; intro gE hg w2 hbox hb; have HGE := mz hg; have HB2 := mz (below_step HB1.out hb); have KC := mz (blk_below KCa.out hb); have KE := mz hbox; have Z2 := mz hb.size; have HLE : Aside0 (gE < w2.heap.size) := ⟨blk_lt hbox⟩; clear hg hb hbox KCa))
   (try simp only [Act.put, List.setIfInBounds_toArray, List.set_cons_zero, List.set_cons_succ])
   obtain ⟨C0, C1, C2, C3, C4, C5, C6, C7⟩ := cells8 KC.out
   go_wp2_with fail
   clear C0 C1 C2 C3 C4 C5 C6 C7
   refine (laws_szClient.calls K1 i t v q b A5 c5 s5 A6 c6 s6 d 1048576 r _ (Kd.C_below U5.out HB2.out) E5.out (Kd.C_below U6.out HB2.out) E6.out HK1.out).mono ?_
   rintro e w3 ⟨rfl, hb⟩
   have HB3 := mz (below_step HB2.out hb)
   have Z3 := mz (hb).size
   have KC_3 := mz (blk_below KC.out hb)
   have KE_3 := mz (blk_below KE.out hb)
   clear hb
   obtain ⟨kE0, kE1, kE2⟩ := cells3 KE_3.out
   go_wp2_with fail
   clear kE0 kE1 kE2
   refine (laws_szEntry.calls K2 e0 e1 A1 c1 op r r2 _ (Kd.C_below U1.out HB3.out) E1.out HK2.out).mono ?_
   rintro e w4 ⟨rfl, hb⟩
   have HB4 := mz (below_step HB3.out hb)
   have Z4 := mz (hb).size
   have KC_4 := mz (blk_below KC_3.out hb)
   have KE_4 := mz (blk_below KE_3.out hb)
   clear hb
   go_wp2_with fail
   go_ret
   exact ⟨rfl, HB4.out⟩
  ·obtain ⟨o1, o2⟩ := hg2 (by omega)
   obtain ⟨K3, hK3⟩ := Ev.rounds (toClient_ev ⟨i, t, v, q, b, s5, s6, d⟩ f5 f6)
   simp only at hK3
   obtain ⟨K4, hK4⟩ := Ev.rounds (toEntry_ev ⟨e0, e1, op⟩ o1)
   simp only at hK4
   have z5 := opOf_sized s5 f5'
   have z6 := opOf_sized s6 f6'
   have zo := opOf_sized op o2
   have zt : t.size ≤ maxLen := by simp only [maxLen]; exact Nat.le_trans f1 (by omega)
   have hl := hearV_len ⟨i, t, v, q, b, opOf s5, opOf s6, d⟩ e0 e1 (opOf op)
   obtain ⟨⟨j1, j2, j3, j4, j5, j6, j7, j8, j9⟩, hj⟩ : ∃ p, hearV ⟨i, t, v, q, b, opOf s5, opOf s6, d⟩ e0 e1 (opOf op) = p := ⟨_, rfl⟩
   have hK5 : spec_HearEntry.f i t v q b (opOf s5) (opOf s6) d e0 e1 (opOf op) = some (j1, j2, j3, j4, j5, j6, j7, j8, j9) := by unfold spec_HearEntry.f; rw [if_pos ⟨zt, z5, z6, zo⟩, hj]
   have hK6 : impl_HearEntry.f i t v q b (opOf s5) (opOf s6) d e0 e1 (opOf op) = some (j1, j2, j3, j4, j5, j6, j7, j8, j9) := by unfold impl_HearEntry.f; rw [if_pos ⟨zt, z5, z6, zo⟩, hj]
   rw [hj] at hl
   simp only at hl
   obtain ⟨l6, l7⟩ := hl
   have n5 := opOf_length s5
   have n6 := opOf_length s6
   have no := opOf_length op
   have b1 : 1 + 3 * ((opOf s5).length : Int) + 3 * ((opOf s6).length : Int) ≤ 4000000000000000 := by omega
   have b2 : 1 + 3 * (j6.length : Int) + 3 * (j7.length : Int) ≤ 4000000000000000 := by omega
   have hE1 := eqClient_val ⟨j1, j2, j3, j4, j5, j6, j7, j8⟩ (by simp only [maxLen]; omega) (by simp only [maxLen]; omega)
   have hE2 := eqClient_val ⟨i, t, v, q, b, opOf s5, opOf s6, d⟩ (by simp only [maxLen]; omega) (by simp only [maxLen]; omega)
   simp only at hE1 hE2
   obtain ⟨K7, hK7⟩ := Ev.rounds (eqEntry_ev ⟨e0, e1, opOf op⟩ (by simp only [maxLen]; omega))
   simp only at hK7
   obtain ⟨K8, hK8⟩ := Ev.rounds (markClient_ev i t v q b (opOf s5) (opOf s6) d b1)
   obtain ⟨m1, hm1⟩ : ∃ m1, 1 + 3 * ((opOf s5).length : Int) + 3 * ((opOf s6).length : Int) = m1 := ⟨_, rfl⟩
   rw [hm1] at hK8
   obtain ⟨K9, hK9⟩ := Ev.rounds (markEntry_ev e0 e1 (opOf op) m1 (by omega) (by omega))
   obtain ⟨m2, hm2⟩ : ∃ m2, m1 + 3 * ((opOf op).length : Int) = m2 := ⟨_, rfl⟩
   rw [hm2] at hK9
   obtain ⟨K10, hK10⟩ := Ev.rounds (markClient_ev j1 j2 j3 j4 j5 j6 j7 j8 b2)
   obtain ⟨K11, hK11⟩ := Ev.rounds (heldClient_ev j1 j2 j3 j4 j5 j6 j7 j8 b2)
   obtain ⟨m3, hm3⟩ : ∃ m3, 1 + 3 * (j6.length : Int) + 3 * (j7.length : Int) = m3 := ⟨_, rfl⟩
   rw [hm3] at hK10 hK11
   have p2 : ¬ m2 < 0 := by omega
   have p3 : ¬ m3 < 0 := by omega
   have p4 : (m3 != m3) = false := by simp
   have p5 : (j9 != j9) = false := by simp
   have HK3 := mz hK3
   have HK4 := mz hK4
   have HK5 := mz hK5
   have HK6 := mz hK6
   have HK7 := mz hK7
   have HK8 := mz hK8
   have HK9 := mz hK9
   have HK10 := mz hK10
   have HK11 := mz hK11
   have HE1 := mz hE1
   have HE2 := mz hE2
   clear hK3 hK4 hK5 hK6 hK7 hK8 hK9 hK10 hK11 hE1 hE2 hj hm1 hm2 hm3 b1 b2 n5 n6 no l6 l7 z5 z6 zo zt f1 f5 f5' f6 f6' o1 o2 hO hO2 hg2 hr hr2'
   go_enter Try.func5, Try.ntmps5
   go_upto_region 2 with (first | ((with_reducible refine gate_dst (N := 2) rfl ?_); refine bx 2 #[.int .i64 i, .string t, .int .i64 v, .int .i64 q, .bool b, .slice A5 s5.length c5, .slice A6 s6.length c6, .bool d] 42 ?_; intro gC hg w1 hbox hb; have HGC := mz hg; have HB1 := mz hb; have KCa := mz hbox; have Z1 := mz hb.size; have HLC : Aside0 (gC < w1.heap.size) := ⟨blk_lt hbox⟩; clear hg hb hbox) | ((with_reducible refine gate_dst (N := 3) rfl ?_); refine bx 3 #[.int .i64 e0, .int .i64 e1, .slice A1 op.length c1] 53 ?_; intro gE hg w2 hbox hb; have HGE := mz hg; have HB2 := mz (below_step HB1.out hb); have KC := mz (blk_below KCa.out hb); have KE := mz hbox; have Z2 := mz hb.size; have HLE : Aside0 (gE < w2.heap.size) := ⟨blk_lt hbox⟩; clear hg hb hbox KCa))
   (try simp only [Act.put, List.setIfInBounds_toArray, List.set_cons_zero, List.set_cons_succ])
   obtain ⟨C0, C1, C2, C3, C4, C5, C6, C7⟩ := cells8 KC.out
   go_wp2_with fail
   clear C0 C1 C2 C3 C4 C5 C6 C7
   refine (laws_szClient.calls K1 i t v q b A5 c5 s5 A6 c6 s6 d 1048576 r _ (Kd.C_below U5.out HB2.out) E5.out (Kd.C_below U6.out HB2.out) E6.out HK1.out).mono ?_
   rintro e w3 ⟨rfl, hb⟩
   have HB3 := mz (below_step HB2.out hb)
   have Z3 := mz (hb).size
   have KC_3 := mz (blk_below KC.out hb)
   have KE_3 := mz (blk_below KE.out hb)
   clear hb
   obtain ⟨kE0, kE1, kE2⟩ := cells3 KE_3.out
   go_wp2_with fail
   clear kE0 kE1 kE2
   refine (laws_szEntry.calls K2 e0 e1 A1 c1 op r r2 _ (Kd.C_below U1.out HB3.out) E1.out HK2.out).mono ?_
   rintro e w4 ⟨rfl, hb⟩
   have HB4 := mz (below_step HB3.out hb)
   have Z4 := mz (hb).size
   have KC_4 := mz (blk_below KC_3.out hb)
   have KE_4 := mz (blk_below KE_3.out hb)
   clear hb
   go_upto_region 8 with fail
   go_cut [6, 7] (fun zp zb wc => ∃ (gW : Nat) (W5 : Option Addr) (W5c : Nat) (W6 : Option Addr) (W6c : Nat), zp = .pointer (some ⟨gW, 0, none⟩) ∧ zb = .bool j9 ∧ Aside0 (wc.heap[gW]? = some (.cells #[.int .i64 j1, .string j2, .int .i64 j3, .int .i64 j4, .bool j5, .slice W5 j6.length W5c, .slice W6 j7.length W6c, .bool j8] 45 (0, 0))) ∧ Aside0 (Kd.R k86 86 wc w.heap.size (fun k => w4.heap.size ≤ k ∧ k < wc.heap.size) (.slice W5 j6.length W5c) j6) ∧ Aside0 (Kd.R k86 86 wc w.heap.size (fun k => w4.heap.size ≤ k ∧ k < wc.heap.size) (.slice W6 j7.length W6c) j7) ∧ Aside0 (Below w4.heap.size w4 wc) ∧ Aside0 (w4.heap.size ≤ gW))
   case first =>
    have F : ∀ W' : World, (W'.heap[gC]? = some (.cells #[.int .i64 i, .string t, .int .i64 v, .int .i64 q, .bool b, .slice A5 s5.length c5, .slice A6 s6.length c6, .bool d] 42 (0, 0)) ∧ W'.heap[gE]? = some (.cells #[.int .i64 e0, .int .i64 e1, .slice A1 op.length c1] 53 (0, 0)) ∧ Below w4.heap.size w4 W') → (W'.cell? ⟨gC, 0, none⟩ = some (.int .i64 i) ∧ W'.cell? ⟨gC, 1, none⟩ = some (.string t) ∧ W'.cell? ⟨gC, 2, none⟩ = some (.int .i64 v) ∧ W'.cell? ⟨gC, 3, none⟩ = some (.int .i64 q) ∧ W'.cell? ⟨gC, 4, none⟩ = some (.bool b) ∧ W'.cell? ⟨gC, 5, none⟩ = some (.slice A5 s5.length c5) ∧ W'.cell? ⟨gC, 6, none⟩ = some (.slice A6 s6.length c6) ∧ W'.cell? ⟨gC, 7, none⟩ = some (.bool d)) ∧ (W'.cell? ⟨gE, 0, none⟩ = some (.int .i64 e0) ∧ W'.cell? ⟨gE, 1, none⟩ = some (.int .i64 e1) ∧ W'.cell? ⟨gE, 2, none⟩ = some (.slice A1 op.length c1)) := fun W' hb => ⟨cells8 hb.1, cells3 hb.2.1⟩
    refine wp_region_held_drew (S := fun W' => W'.heap[gC]? = some (.cells #[.int .i64 i, .string t, .int .i64 v, .int .i64 q, .bool b, .slice A5 s5.length c5, .slice A6 s6.length c6, .bool d] 42 (0, 0)) ∧ W'.heap[gE]? = some (.cells #[.int .i64 e0, .int .i64 e1, .slice A1 op.length c1] 53 (0, 0)) ∧ Below w4.heap.size w4 W') (by kernel_rfl) ⟨KC_4.out, KE_4.out, below_drew1 (Below.refl _ _)⟩ (fun Y => ?_)
    refine' tF 0 F ?_
    refine' tF 2 F ?_
    refine tCB 1 8 #[.int .i64 0, .string ⟨#[]⟩, .int .i64 0, .int .i64 0, .bool false, .slice none 0 0, .slice none 0 0, .bool false] 45 (laws_toClient.calls K3 i t v q b A5 c5 s5 A6 c6 s6 d i t v q b (opOf s5) (opOf s6) d _ (Kd.C_below U5.out (below_step HB4.out Y.2.2)) E5.out (Kd.C_below U6.out (below_step HB4.out Y.2.2)) E6.out HK3.out) ?_ ?_
    ·rintro e wq1 ⟨v5, v6, rfl, hR5, hR6, hb⟩
     refine ⟨_, rfl, ⟨blk_below Y.1 hb, blk_below Y.2.1 hb, below_step Y.2.2 hb⟩, ?_⟩
     intro a' ha'
     (try simp only [Act.put, List.getElem_toArray, List.getElem_cons_succ, List.getElem_cons_zero, List.setIfInBounds_toArray, List.set_cons_zero, List.set_cons_succ] at ha')
     subst ha'
     intro Y1
     obtain ⟨S5, S5c, eo⟩ := Kd.R_slice hR5
     subst eo
     obtain ⟨S6, S6c, eo⟩ := Kd.R_slice hR6
     subst eo
     have RS5 := mz hR5
     have RS6 := mz hR6
     clear hR5 hR6
     clear hb
     refine tCB 3 8 #[.int .i64 0, .string ⟨#[]⟩, .int .i64 0, .int .i64 0, .bool false, .slice none 0 0, .slice none 0 0, .bool false] 45 (laws_toEntry.calls K4 e0 e1 A1 c1 op e0 e1 (opOf op) _ (Kd.C_below U1.out (below_step HB4.out Y1.2.2)) E1.out HK4.out) ?_ ?_
     ·rintro e wq2 ⟨vo, rfl, hRo, hb⟩
      refine ⟨_, rfl, ⟨blk_below Y1.1 hb, blk_below Y1.2.1 hb, below_step Y1.2.2 hb⟩, ?_⟩
      intro a' ha'
      (try simp only [Act.put, List.getElem_toArray, List.getElem_cons_succ, List.getElem_cons_zero, List.setIfInBounds_toArray, List.set_cons_zero, List.set_cons_succ] at ha')
      subst ha'
      intro Y2
      have RS5c := mz (Kd.R_below RS5.out hb)
      have RS6c := mz (Kd.R_below RS6.out hb)
      obtain ⟨O, Oc, eo⟩ := Kd.R_slice hRo
      subst eo
      have RO := mz hRo
      clear hRo
      clear hb
      refine tCB 4 8 #[.int .i64 0, .string ⟨#[]⟩, .int .i64 0, .int .i64 0, .bool false, .slice none 0 0, .slice none 0 0, .bool false] 45 (spec_HearEntry.calls i t v q b S5 S5c (opOf s5) S6 S6c (opOf s6) d e0 e1 O Oc (opOf op) j1 j2 j3 j4 j5 j6 j7 j8 j9 _ (Kd.R_reads' RS5c.out).2.2 (Kd.R_reads' RS5c.out).2.1 (Kd.R_reads' RS6c.out).2.2 (Kd.R_reads' RS6c.out).2.1 (Kd.R_reads' RO.out).2.2 (Kd.R_reads' RO.out).2.1 HK5.out) ?_ ?_
      ·rintro e wq3 ⟨v5, v6, rfl, hR5, hR6, hb⟩
       refine ⟨_, rfl, ⟨blk_below Y2.1 hb, blk_below Y2.2.1 hb, below_step Y2.2.2 hb⟩, ?_⟩
       intro a' ha'
       (try simp only [Act.put, List.getElem_toArray, List.getElem_cons_succ, List.getElem_cons_zero, List.setIfInBounds_toArray, List.set_cons_zero, List.set_cons_succ] at ha')
       subst ha'
       intro Y3
       have RS5cc := mz (Kd.R_below RS5c.out hb)
       have RS6cc := mz (Kd.R_below RS6c.out hb)
       have ROc := mz (Kd.R_below RO.out hb)
       obtain ⟨W5, W5c, eo⟩ := Kd.R_slice hR5
       subst eo
       obtain ⟨W6, W6c, eo⟩ := Kd.R_slice hR6
       subst eo
       obtain ⟨lo, hlo⟩ : ∃ lo, lo = wq2.heap.size := ⟨_, rfl⟩
       obtain ⟨hi, hhi⟩ : ∃ hi, hi = wq3.heap.size := ⟨_, rfl⟩
       have RW5 : Aside0 (Kd.R k86 86 wq3 w.heap.size (fun k => lo ≤ k ∧ k < hi) (.slice W5 j6.length W5c) j6) := ⟨by rw [hlo, hhi]; exact R_new hR5 (below_step HB4.out Y2.2.2).size⟩
       have RW6 : Aside0 (Kd.R k86 86 wq3 w.heap.size (fun k => lo ≤ k ∧ k < hi) (.slice W6 j7.length W6c) j7) := ⟨by rw [hlo, hhi]; exact R_new hR6 (below_step HB4.out Y2.2.2).size⟩
       have HLO : Aside0 (w4.heap.size ≤ lo) := ⟨by rw [hlo]; exact Y2.2.2.size⟩
       have HHE : Aside0 (hi = wq3.heap.size) := ⟨hhi⟩
       clear hR5 hR6 hlo hhi
       clear hb
       refine' tF 5 F ?_
       refine' tF 6 F ?_
       refine' tF 7 F ?_
       refine tB 8 #[.int .i64 0, .string ⟨#[]⟩, .int .i64 0, .int .i64 0, .bool false, .slice none 0 0, .slice none 0 0, .bool false] 45 ?_
       intro gW hg wb4 hbox hb
       refine ⟨⟨blk_below Y3.1 hb, blk_below Y3.2.1 hb, below_step Y3.2.2 hb⟩, ?_⟩
       intro a' ha'
       (try simp only [Act.put, List.getElem_toArray, List.getElem_cons_succ, List.getElem_cons_zero, List.setIfInBounds_toArray, List.set_cons_zero, List.set_cons_succ] at ha')
       subst ha'
       intro Y4
       have RW5b := mz (Kd.R_below RW5.out hb)
       have RW6b := mz (Kd.R_below RW6.out hb)
       have HX := mz hbox
       have HGn : Aside0 (w4.heap.size ≤ gW) := ⟨by rw [hg]; exact Y3.2.2.size⟩
       have HOW : Aside0 (gW < lo ∨ hi ≤ gW) := ⟨.inr (by rw [hg]; exact Nat.le_of_eq HHE.out)⟩
       have HHI : Aside0 (hi ≤ wb4.heap.size) := ⟨by have h1 := hb.size; have h2 := HHE.out; omega⟩
       clear hg hbox hb
       have hp := put8 (.int .i64 j1) (.string j2) (.int .i64 j3) (.int .i64 j4) (.bool j5) (.slice W5 j6.length W5c) (.slice W6 j7.length W6c) (.bool j8) Y4.2.2 HGn.out HX.out
       have hlt : gC < w4.heap.size ∧ gE < w4.heap.size := ⟨blk_lt KC_4.out, blk_lt KE_4.out⟩
       obtain ⟨u0, u1, u2, u3, u4, u5, u6, u7⟩ := cells8 HX.out
       obtain ⟨z0, z1, z2, z3, z4, z5, z6, z7⟩ := froz8 HX.out
       refine tS 9 ⟨blk_kp Y4.1 hp.2.2 (by have := HGn.out; omega), blk_kp Y4.2.1 hp.2.2 (by have := HGn.out; omega), hp.2.1⟩ ?_
       intro Y5
       clear u0 u1 u2 u3 u4 u5 u6 u7 z0 z1 z2 z3 z4 z5 z6 z7
       refine' tF 10 F ?_
       refine wpAnyH_done (by kernel_rfl) ?_ _
       have q5 := R_off RW5b.out hp.2.2 HOW.out
       have q6 := R_off RW6b.out hp.2.2 HOW.out
       have hsz := hp.2.2.1
       have hhi := HHI.out
       go_wp2_with fail
       go_meet
       case rel => exact ⟨gW, W5, W5c, W6, W6c, rfl, rfl, ⟨hp.1⟩, ⟨R_wide q5 HLO.out (Nat.le_trans hhi hsz)⟩, ⟨R_wide q6 HLO.out (Nat.le_trans hhi hsz)⟩, ⟨Y5.2.2⟩, HGn⟩
      ·intro gW hg wb6 hbox hb
       refine ⟨⟨blk_below Y2.1 hb, blk_below Y2.2.1 hb, below_step Y2.2.2 hb⟩, ?_⟩
       intro a' ha'
       (try simp only [Act.put, List.getElem_toArray, List.getElem_cons_succ, List.getElem_cons_zero, List.setIfInBounds_toArray, List.set_cons_zero, List.set_cons_succ] at ha')
       subst ha'
       intro Y6
       have RS5cb := mz (Kd.R_below RS5c.out hb)
       have RS6cb := mz (Kd.R_below RS6c.out hb)
       have ROb := mz (Kd.R_below RO.out hb)
       have HX := mz hbox
       have HGn : Aside0 (w4.heap.size ≤ gW) := ⟨by rw [hg]; exact Y2.2.2.size⟩
       clear hg hbox hb
       refine tC 4 (spec_HearEntry.calls i t v q b S5 S5c (opOf s5) S6 S6c (opOf s6) d e0 e1 O Oc (opOf op) j1 j2 j3 j4 j5 j6 j7 j8 j9 _ (Kd.R_reads' RS5cb.out).2.2 (Kd.R_reads' RS5cb.out).2.1 (Kd.R_reads' RS6cb.out).2.2 (Kd.R_reads' RS6cb.out).2.1 (Kd.R_reads' ROb.out).2.2 (Kd.R_reads' ROb.out).2.1 HK5.out) ?_
       rintro e wq7 ⟨v5, v6, rfl, hR5, hR6, hb⟩
       refine ⟨_, rfl, ⟨blk_below Y6.1 hb, blk_below Y6.2.1 hb, below_step Y6.2.2 hb⟩, ?_⟩
       intro a' ha'
       (try simp only [Act.put, List.getElem_toArray, List.getElem_cons_succ, List.getElem_cons_zero, List.setIfInBounds_toArray, List.set_cons_zero, List.set_cons_succ] at ha')
       subst ha'
       intro Y7
       have RS5cbc := mz (Kd.R_below RS5cb.out hb)
       have RS6cbc := mz (Kd.R_below RS6cb.out hb)
       have RObc := mz (Kd.R_below ROb.out hb)
       obtain ⟨W5, W5c, eo⟩ := Kd.R_slice hR5
       subst eo
       obtain ⟨W6, W6c, eo⟩ := Kd.R_slice hR6
       subst eo
       obtain ⟨lo, hlo⟩ : ∃ lo, lo = wb6.heap.size := ⟨_, rfl⟩
       obtain ⟨hi, hhi⟩ : ∃ hi, hi = wq7.heap.size := ⟨_, rfl⟩
       have RW5 : Aside0 (Kd.R k86 86 wq7 w.heap.size (fun k => lo ≤ k ∧ k < hi) (.slice W5 j6.length W5c) j6) := ⟨by rw [hlo, hhi]; exact R_new hR5 (below_step HB4.out Y6.2.2).size⟩
       have RW6 : Aside0 (Kd.R k86 86 wq7 w.heap.size (fun k => lo ≤ k ∧ k < hi) (.slice W6 j7.length W6c) j7) := ⟨by rw [hlo, hhi]; exact R_new hR6 (below_step HB4.out Y6.2.2).size⟩
       have HLO : Aside0 (w4.heap.size ≤ lo) := ⟨by rw [hlo]; exact Y6.2.2.size⟩
       have HHE : Aside0 (hi = wq7.heap.size) := ⟨hhi⟩
       have HOW : Aside0 (gW < lo ∨ hi ≤ gW) := ⟨.inl (by rw [hlo]; exact blk_lt HX.out)⟩
       clear hR5 hR6 hlo hhi
       have HXc := mz (blk_below HX.out hb)
       clear hb
       refine' tF 5 F ?_
       refine' tF 6 F ?_
       refine' tF 7 F ?_
       have HHI : Aside0 (hi ≤ wq7.heap.size) := ⟨Nat.le_of_eq HHE.out⟩
       have hp := put8 (.int .i64 j1) (.string j2) (.int .i64 j3) (.int .i64 j4) (.bool j5) (.slice W5 j6.length W5c) (.slice W6 j7.length W6c) (.bool j8) Y7.2.2 HGn.out HXc.out
       have hlt : gC < w4.heap.size ∧ gE < w4.heap.size := ⟨blk_lt KC_4.out, blk_lt KE_4.out⟩
       obtain ⟨u0, u1, u2, u3, u4, u5, u6, u7⟩ := cells8 HXc.out
       obtain ⟨z0, z1, z2, z3, z4, z5, z6, z7⟩ := froz8 HXc.out
       refine tS 9 ⟨blk_kp Y7.1 hp.2.2 (by have := HGn.out; omega), blk_kp Y7.2.1 hp.2.2 (by have := HGn.out; omega), hp.2.1⟩ ?_
       intro Y8
       clear u0 u1 u2 u3 u4 u5 u6 u7 z0 z1 z2 z3 z4 z5 z6 z7
       refine' tF 10 F ?_
       refine wpAnyH_done (by kernel_rfl) ?_ _
       have q5 := R_off RW5.out hp.2.2 HOW.out
       have q6 := R_off RW6.out hp.2.2 HOW.out
       have hsz := hp.2.2.1
       have hhi := HHI.out
       go_wp2_with fail
       go_meet
       case rel => exact ⟨gW, W5, W5c, W6, W6c, rfl, rfl, ⟨hp.1⟩, ⟨R_wide q5 HLO.out (Nat.le_trans hhi hsz)⟩, ⟨R_wide q6 HLO.out (Nat.le_trans hhi hsz)⟩, ⟨Y8.2.2⟩, HGn⟩
     ·intro gW hg wb9 hbox hb
      refine ⟨⟨blk_below Y1.1 hb, blk_below Y1.2.1 hb, below_step Y1.2.2 hb⟩, ?_⟩
      intro a' ha'
      (try simp only [Act.put, List.getElem_toArray, List.getElem_cons_succ, List.getElem_cons_zero, List.setIfInBounds_toArray, List.set_cons_zero, List.set_cons_succ] at ha')
      subst ha'
      intro Y9
      have RS5b := mz (Kd.R_below RS5.out hb)
      have RS6b := mz (Kd.R_below RS6.out hb)
      have HX := mz hbox
      have HGn : Aside0 (w4.heap.size ≤ gW) := ⟨by rw [hg]; exact Y1.2.2.size⟩
      clear hg hbox hb
      refine tC 3 (laws_toEntry.calls K4 e0 e1 A1 c1 op e0 e1 (opOf op) _ (Kd.C_below U1.out (below_step HB4.out Y9.2.2)) E1.out HK4.out) ?_
      rintro e wq10 ⟨vo, rfl, hRo, hb⟩
      refine ⟨_, rfl, ⟨blk_below Y9.1 hb, blk_below Y9.2.1 hb, below_step Y9.2.2 hb⟩, ?_⟩
      intro a' ha'
      (try simp only [Act.put, List.getElem_toArray, List.getElem_cons_succ, List.getElem_cons_zero, List.setIfInBounds_toArray, List.set_cons_zero, List.set_cons_succ] at ha')
      subst ha'
      intro Y10
      have RS5bc := mz (Kd.R_below RS5b.out hb)
      have RS6bc := mz (Kd.R_below RS6b.out hb)
      obtain ⟨O, Oc, eo⟩ := Kd.R_slice hRo
      subst eo
      have RO := mz hRo
      clear hRo
      have HXc := mz (blk_below HX.out hb)
      clear hb
      refine tC 4 (spec_HearEntry.calls i t v q b S5 S5c (opOf s5) S6 S6c (opOf s6) d e0 e1 O Oc (opOf op) j1 j2 j3 j4 j5 j6 j7 j8 j9 _ (Kd.R_reads' RS5bc.out).2.2 (Kd.R_reads' RS5bc.out).2.1 (Kd.R_reads' RS6bc.out).2.2 (Kd.R_reads' RS6bc.out).2.1 (Kd.R_reads' RO.out).2.2 (Kd.R_reads' RO.out).2.1 HK5.out) ?_
      rintro e wq11 ⟨v5, v6, rfl, hR5, hR6, hb⟩
      refine ⟨_, rfl, ⟨blk_below Y10.1 hb, blk_below Y10.2.1 hb, below_step Y10.2.2 hb⟩, ?_⟩
      intro a' ha'
      (try simp only [Act.put, List.getElem_toArray, List.getElem_cons_succ, List.getElem_cons_zero, List.setIfInBounds_toArray, List.set_cons_zero, List.set_cons_succ] at ha')
      subst ha'
      intro Y11
      have RS5bcc := mz (Kd.R_below RS5bc.out hb)
      have RS6bcc := mz (Kd.R_below RS6bc.out hb)
      have ROc := mz (Kd.R_below RO.out hb)
      obtain ⟨W5, W5c, eo⟩ := Kd.R_slice hR5
      subst eo
      obtain ⟨W6, W6c, eo⟩ := Kd.R_slice hR6
      subst eo
      obtain ⟨lo, hlo⟩ : ∃ lo, lo = wq10.heap.size := ⟨_, rfl⟩
      obtain ⟨hi, hhi⟩ : ∃ hi, hi = wq11.heap.size := ⟨_, rfl⟩
      have RW5 : Aside0 (Kd.R k86 86 wq11 w.heap.size (fun k => lo ≤ k ∧ k < hi) (.slice W5 j6.length W5c) j6) := ⟨by rw [hlo, hhi]; exact R_new hR5 (below_step HB4.out Y10.2.2).size⟩
      have RW6 : Aside0 (Kd.R k86 86 wq11 w.heap.size (fun k => lo ≤ k ∧ k < hi) (.slice W6 j7.length W6c) j7) := ⟨by rw [hlo, hhi]; exact R_new hR6 (below_step HB4.out Y10.2.2).size⟩
      have HLO : Aside0 (w4.heap.size ≤ lo) := ⟨by rw [hlo]; exact Y10.2.2.size⟩
      have HHE : Aside0 (hi = wq11.heap.size) := ⟨hhi⟩
      have HOW : Aside0 (gW < lo ∨ hi ≤ gW) := ⟨.inl (by rw [hlo]; exact blk_lt HXc.out)⟩
      clear hR5 hR6 hlo hhi
      have HXcc := mz (blk_below HXc.out hb)
      clear hb
      refine' tF 5 F ?_
      refine' tF 6 F ?_
      refine' tF 7 F ?_
      have HHI : Aside0 (hi ≤ wq11.heap.size) := ⟨Nat.le_of_eq HHE.out⟩
      have hp := put8 (.int .i64 j1) (.string j2) (.int .i64 j3) (.int .i64 j4) (.bool j5) (.slice W5 j6.length W5c) (.slice W6 j7.length W6c) (.bool j8) Y11.2.2 HGn.out HXcc.out
      have hlt : gC < w4.heap.size ∧ gE < w4.heap.size := ⟨blk_lt KC_4.out, blk_lt KE_4.out⟩
      obtain ⟨u0, u1, u2, u3, u4, u5, u6, u7⟩ := cells8 HXcc.out
      obtain ⟨z0, z1, z2, z3, z4, z5, z6, z7⟩ := froz8 HXcc.out
      refine tS 9 ⟨blk_kp Y11.1 hp.2.2 (by have := HGn.out; omega), blk_kp Y11.2.1 hp.2.2 (by have := HGn.out; omega), hp.2.1⟩ ?_
      intro Y12
      clear u0 u1 u2 u3 u4 u5 u6 u7 z0 z1 z2 z3 z4 z5 z6 z7
      refine' tF 10 F ?_
      refine wpAnyH_done (by kernel_rfl) ?_ _
      have q5 := R_off RW5.out hp.2.2 HOW.out
      have q6 := R_off RW6.out hp.2.2 HOW.out
      have hsz := hp.2.2.1
      have hhi := HHI.out
      go_wp2_with fail
      go_meet
      case rel => exact ⟨gW, W5, W5c, W6, W6c, rfl, rfl, ⟨hp.1⟩, ⟨R_wide q5 HLO.out (Nat.le_trans hhi hsz)⟩, ⟨R_wide q6 HLO.out (Nat.le_trans hhi hsz)⟩, ⟨Y12.2.2⟩, HGn⟩
    ·intro gW hg wb13 hbox hb
     refine ⟨⟨blk_below Y.1 hb, blk_below Y.2.1 hb, below_step Y.2.2 hb⟩, ?_⟩
     intro a' ha'
     (try simp only [Act.put, List.getElem_toArray, List.getElem_cons_succ, List.getElem_cons_zero, List.setIfInBounds_toArray, List.set_cons_zero, List.set_cons_succ] at ha')
     subst ha'
     intro Y13
     have HX := mz hbox
     have HGn : Aside0 (w4.heap.size ≤ gW) := ⟨by rw [hg]; exact Y.2.2.size⟩
     clear hg hbox hb
     refine tC 1 (laws_toClient.calls K3 i t v q b A5 c5 s5 A6 c6 s6 d i t v q b (opOf s5) (opOf s6) d _ (Kd.C_below U5.out (below_step HB4.out Y13.2.2)) E5.out (Kd.C_below U6.out (below_step HB4.out Y13.2.2)) E6.out HK3.out) ?_
     rintro e wq14 ⟨v5, v6, rfl, hR5, hR6, hb⟩
     refine ⟨_, rfl, ⟨blk_below Y13.1 hb, blk_below Y13.2.1 hb, below_step Y13.2.2 hb⟩, ?_⟩
     intro a' ha'
     (try simp only [Act.put, List.getElem_toArray, List.getElem_cons_succ, List.getElem_cons_zero, List.setIfInBounds_toArray, List.set_cons_zero, List.set_cons_succ] at ha')
     subst ha'
     intro Y14
     obtain ⟨S5, S5c, eo⟩ := Kd.R_slice hR5
     subst eo
     obtain ⟨S6, S6c, eo⟩ := Kd.R_slice hR6
     subst eo
     have RS5 := mz hR5
     have RS6 := mz hR6
     clear hR5 hR6
     have HXc := mz (blk_below HX.out hb)
     clear hb
     refine tC 3 (laws_toEntry.calls K4 e0 e1 A1 c1 op e0 e1 (opOf op) _ (Kd.C_below U1.out (below_step HB4.out Y14.2.2)) E1.out HK4.out) ?_
     rintro e wq15 ⟨vo, rfl, hRo, hb⟩
     refine ⟨_, rfl, ⟨blk_below Y14.1 hb, blk_below Y14.2.1 hb, below_step Y14.2.2 hb⟩, ?_⟩
     intro a' ha'
     (try simp only [Act.put, List.getElem_toArray, List.getElem_cons_succ, List.getElem_cons_zero, List.setIfInBounds_toArray, List.set_cons_zero, List.set_cons_succ] at ha')
     subst ha'
     intro Y15
     have RS5c := mz (Kd.R_below RS5.out hb)
     have RS6c := mz (Kd.R_below RS6.out hb)
     obtain ⟨O, Oc, eo⟩ := Kd.R_slice hRo
     subst eo
     have RO := mz hRo
     clear hRo
     have HXcc := mz (blk_below HXc.out hb)
     clear hb
     refine tC 4 (spec_HearEntry.calls i t v q b S5 S5c (opOf s5) S6 S6c (opOf s6) d e0 e1 O Oc (opOf op) j1 j2 j3 j4 j5 j6 j7 j8 j9 _ (Kd.R_reads' RS5c.out).2.2 (Kd.R_reads' RS5c.out).2.1 (Kd.R_reads' RS6c.out).2.2 (Kd.R_reads' RS6c.out).2.1 (Kd.R_reads' RO.out).2.2 (Kd.R_reads' RO.out).2.1 HK5.out) ?_
     rintro e wq16 ⟨v5, v6, rfl, hR5, hR6, hb⟩
     refine ⟨_, rfl, ⟨blk_below Y15.1 hb, blk_below Y15.2.1 hb, below_step Y15.2.2 hb⟩, ?_⟩
     intro a' ha'
     (try simp only [Act.put, List.getElem_toArray, List.getElem_cons_succ, List.getElem_cons_zero, List.setIfInBounds_toArray, List.set_cons_zero, List.set_cons_succ] at ha')
     subst ha'
     intro Y16
     have RS5cc := mz (Kd.R_below RS5c.out hb)
     have RS6cc := mz (Kd.R_below RS6c.out hb)
     have ROc := mz (Kd.R_below RO.out hb)
     obtain ⟨W5, W5c, eo⟩ := Kd.R_slice hR5
     subst eo
     obtain ⟨W6, W6c, eo⟩ := Kd.R_slice hR6
     subst eo
     obtain ⟨lo, hlo⟩ : ∃ lo, lo = wq15.heap.size := ⟨_, rfl⟩
     obtain ⟨hi, hhi⟩ : ∃ hi, hi = wq16.heap.size := ⟨_, rfl⟩
     have RW5 : Aside0 (Kd.R k86 86 wq16 w.heap.size (fun k => lo ≤ k ∧ k < hi) (.slice W5 j6.length W5c) j6) := ⟨by rw [hlo, hhi]; exact R_new hR5 (below_step HB4.out Y15.2.2).size⟩
     have RW6 : Aside0 (Kd.R k86 86 wq16 w.heap.size (fun k => lo ≤ k ∧ k < hi) (.slice W6 j7.length W6c) j7) := ⟨by rw [hlo, hhi]; exact R_new hR6 (below_step HB4.out Y15.2.2).size⟩
     have HLO : Aside0 (w4.heap.size ≤ lo) := ⟨by rw [hlo]; exact Y15.2.2.size⟩
     have HHE : Aside0 (hi = wq16.heap.size) := ⟨hhi⟩
     have HOW : Aside0 (gW < lo ∨ hi ≤ gW) := ⟨.inl (by rw [hlo]; exact blk_lt HXcc.out)⟩
     clear hR5 hR6 hlo hhi
     have HXccc := mz (blk_below HXcc.out hb)
     clear hb
     refine' tF 5 F ?_
     refine' tF 6 F ?_
     refine' tF 7 F ?_
     have HHI : Aside0 (hi ≤ wq16.heap.size) := ⟨Nat.le_of_eq HHE.out⟩
     have hp := put8 (.int .i64 j1) (.string j2) (.int .i64 j3) (.int .i64 j4) (.bool j5) (.slice W5 j6.length W5c) (.slice W6 j7.length W6c) (.bool j8) Y16.2.2 HGn.out HXccc.out
     have hlt : gC < w4.heap.size ∧ gE < w4.heap.size := ⟨blk_lt KC_4.out, blk_lt KE_4.out⟩
     obtain ⟨u0, u1, u2, u3, u4, u5, u6, u7⟩ := cells8 HXccc.out
     obtain ⟨z0, z1, z2, z3, z4, z5, z6, z7⟩ := froz8 HXccc.out
     refine tS 9 ⟨blk_kp Y16.1 hp.2.2 (by have := HGn.out; omega), blk_kp Y16.2.1 hp.2.2 (by have := HGn.out; omega), hp.2.1⟩ ?_
     intro Y17
     clear u0 u1 u2 u3 u4 u5 u6 u7 z0 z1 z2 z3 z4 z5 z6 z7
     refine' tF 10 F ?_
     refine wpAnyH_done (by kernel_rfl) ?_ _
     have q5 := R_off RW5.out hp.2.2 HOW.out
     have q6 := R_off RW6.out hp.2.2 HOW.out
     have hsz := hp.2.2.1
     have hhi := HHI.out
     go_wp2_with fail
     go_meet
     case rel => exact ⟨gW, W5, W5c, W6, W6c, rfl, rfl, ⟨hp.1⟩, ⟨R_wide q5 HLO.out (Nat.le_trans hhi hsz)⟩, ⟨R_wide q6 HLO.out (Nat.le_trans hhi hsz)⟩, ⟨Y17.2.2⟩, HGn⟩
   case rest =>
    obtain ⟨gW, W5, W5c, W6, W6c, rfl, rfl, hbx, hr5, hr6, hbl, hge⟩ := hcut
    obtain ⟨w5, hw⟩ : ∃ x : World, x = wc := ⟨_, rfl⟩
    subst hw
    have HB5 := mz (below_step HB4.out hbl.out)
    have Z5 := mz (hbl.out).size
    have KC_5 := mz (blk_below KC_4.out hbl.out)
    have KE_5 := mz (blk_below KE_4.out hbl.out)
    have KW := mz hbx.out
    have HGW := mz hge.out
    have HLW : Aside0 (gW < w5.heap.size) := ⟨blk_lt hbx.out⟩
    have RW5 := mz hr5.out
    have RW6 := mz hr6.out
    clear hbx hr5 hr6 hbl hge
    obtain ⟨C0, C1, C2, C3, C4, C5, C6, C7⟩ := cells8 KC_5.out
    go_wp2_with fail
    clear C0 C1 C2 C3 C4 C5 C6 C7
    refine (laws_toClient.calls K3 i t v q b A5 c5 s5 A6 c6 s6 d i t v q b (opOf s5) (opOf s6) d _ (Kd.C_below U5.out HB5.out) E5.out (Kd.C_below U6.out HB5.out) E6.out HK3.out).mono ?_
    rintro e w6 ⟨v5, v6, rfl, hR5, hR6, hb⟩
    have HB6 := mz (below_step HB5.out hb)
    have Z6 := mz (hb).size
    have KC_6 := mz (blk_below KC_5.out hb)
    have KE_6 := mz (blk_below KE_5.out hb)
    have KW_6 := mz (blk_below KW.out hb)
    have RW5_6 := mz (Kd.R_below RW5.out hb)
    have RW6_6 := mz (Kd.R_below RW6.out hb)
    clear hb
    obtain ⟨X5, X5c, eo⟩ := Kd.R_slice hR5
    subst eo
    obtain ⟨X6, X6c, eo⟩ := Kd.R_slice hR6
    subst eo
    have HDX := mz (fun k e e' => hR5.1 k e e'.symm : ∀ k, (Value.slice X5 (opOf s5).length X5c).ownBlock = some k → ¬ (Value.slice X6 (opOf s6).length X6c).ownBlock = some k)
    have RX5 := mz (R_new hR5 HB5.out.size)
    have RX6 := mz (R_new hR6 HB5.out.size)
    clear hR5 hR6
    go_upto_region 10 with ((with_reducible refine gate_dst (N := 8) rfl ?_); refine bx 8 #[.int .i64 0, .string ⟨#[]⟩, .int .i64 0, .int .i64 0, .bool false, .slice none 0 0, .slice none 0 0, .bool false] 45 ?_; intro gX hg wx hbox hb; have HX := mz hg; have Bx := mz hb; have KX := mz hbox; obtain ⟨y0, y1, y2, y3, y4, y5, y6, y7⟩ := cells8 hbox; obtain ⟨z0, z1, z2, z3, z4, z5, z6, z7⟩ := froz8 hbox; clear hg hbox hb)
    have hp := put8 (.int .i64 i) (.string t) (.int .i64 v) (.int .i64 q) (.bool b) (.slice X5 (opOf s5).length X5c) (.slice X6 (opOf s6).length X6c) (.bool d) Bx.out (Nat.le_of_eq HX.out.symm) KX.out
    have KN := mz hp.1
    have Bz := mz hp.2.1
    clear hp y0 y1 y2 y3 y4 y5 y6 y7 z0 z1 z2 z3 z4 z5 z6 z7 Bx KX
    generalize (((((((wx.setCell ⟨gX, 0, none⟩ (.int .i64 i)).setCell ⟨gX, 1, none⟩ (.string t)).setCell ⟨gX, 2, none⟩ (.int .i64 v)).setCell ⟨gX, 3, none⟩ (.int .i64 q)).setCell ⟨gX, 4, none⟩ (.bool b)).setCell ⟨gX, 5, none⟩ (.slice X5 (opOf s5).length X5c)).setCell ⟨gX, 6, none⟩ (.slice X6 (opOf s6).length X6c)).setCell ⟨gX, 7, none⟩ (.bool d) = w7 at KN Bz ⊢
    have HB7 := mz (below_step HB6.out Bz.out)
    have Z7 := mz (Bz.out).size
    have KC_7 := mz (blk_below KC_6.out Bz.out)
    have KE_7 := mz (blk_below KE_6.out Bz.out)
    have KW_7 := mz (blk_below KW_6.out Bz.out)
    have RW5_7 := mz (Kd.R_below RW5_6.out Bz.out)
    have RW6_7 := mz (Kd.R_below RW6_6.out Bz.out)
    have RX5_7 := mz (Kd.R_below RX5.out Bz.out)
    have RX6_7 := mz (Kd.R_below RX6.out Bz.out)
    have KX := mz KN.out
    have HGX := mz HX.out
    have HLX : Aside0 (gX < w7.heap.size) := ⟨blk_lt KN.out⟩
    clear KN Bz HX
    obtain ⟨kE0, kE1, kE2⟩ := cells3 KE_7.out
    go_wp2_with fail
    clear kE0 kE1 kE2
    refine (laws_toEntry.calls K4 e0 e1 A1 c1 op e0 e1 (opOf op) _ (Kd.C_below U1.out HB7.out) E1.out HK4.out).mono ?_
    rintro e w8 ⟨vo, rfl, hRo, hb⟩
    have HB8 := mz (below_step HB7.out hb)
    have Z8 := mz (hb).size
    have KC_8 := mz (blk_below KC_7.out hb)
    have KE_8 := mz (blk_below KE_7.out hb)
    have KW_8 := mz (blk_below KW_7.out hb)
    have KX_8 := mz (blk_below KX.out hb)
    have RW5_8 := mz (Kd.R_below RW5_7.out hb)
    have RW6_8 := mz (Kd.R_below RW6_7.out hb)
    have RX5_8 := mz (Kd.R_below RX5_7.out hb)
    have RX6_8 := mz (Kd.R_below RX6_7.out hb)
    clear hb
    obtain ⟨O1, O1c, eo⟩ := Kd.R_slice hRo
    subst eo
    have RO1 := mz (R_new hRo HB7.out.size)
    clear hRo
    go_upto_region 11 with ((with_reducible refine gate_dst (N := 9) rfl ?_); refine bx 9 #[.int .i64 0, .int .i64 0, .slice none 0 0] 57 ?_; intro gO hg wx hbox hb; have HX := mz hg; have Bx := mz hb; have KX := mz hbox; obtain ⟨y0, y1, y2⟩ := cells3 hbox; obtain ⟨z0, z1, z2⟩ := froz3 hbox; clear hg hbox hb)
    have hp := fill3 (v0 := (.int .i64 e0)) (v1 := (.int .i64 e1)) (v2 := (.slice O1 (opOf op).length O1c)) Bx.out (Nat.le_of_eq HX.out.symm) KX.out
    have KN := mz hp.1
    have Bz := mz hp.2
    clear hp y0 y1 y2 z0 z1 z2 Bx KX
    generalize ((wx.setCell ⟨gO, 0, none⟩ (.int .i64 e0)).setCell ⟨gO, 1, none⟩ (.int .i64 e1)).setCell ⟨gO, 2, none⟩ (.slice O1 (opOf op).length O1c) = w9 at KN Bz ⊢
    have HB9 := mz (below_step HB8.out Bz.out)
    have Z9 := mz (Bz.out).size
    have KC_9 := mz (blk_below KC_8.out Bz.out)
    have KE_9 := mz (blk_below KE_8.out Bz.out)
    have KW_9 := mz (blk_below KW_8.out Bz.out)
    have KX_9 := mz (blk_below KX_8.out Bz.out)
    have RW5_9 := mz (Kd.R_below RW5_8.out Bz.out)
    have RW6_9 := mz (Kd.R_below RW6_8.out Bz.out)
    have RX5_9 := mz (Kd.R_below RX5_8.out Bz.out)
    have RX6_9 := mz (Kd.R_below RX6_8.out Bz.out)
    have RO1_9 := mz (Kd.R_below RO1.out Bz.out)
    have KO := mz KN.out
    have HGO := mz HX.out
    have HLO : Aside0 (gO < w9.heap.size) := ⟨blk_lt KN.out⟩
    clear KN Bz HX
    obtain ⟨X0, X1, X2, X3, X4, X5, X6, X7⟩ := cells8 KX_9.out
    obtain ⟨kO0, kO1, kO2⟩ := cells3 KO.out
    go_wp2_with fail
    clear X0 X1 X2 X3 X4 X5 X6 X7
    clear kO0 kO1 kO2
    refine (impl_HearEntry.calls i t v q b X5 X5c (opOf s5) X6 X6c (opOf s6) d e0 e1 O1 O1c (opOf op) j1 j2 j3 j4 j5 j6 j7 j8 j9 _ (Kd.R_reads' RX5_9.out).2.2 (Kd.R_reads' RX5_9.out).2.1 (Kd.R_reads' RX6_9.out).2.2 (Kd.R_reads' RX6_9.out).2.1 (Kd.R_reads' RO1_9.out).2.2 (Kd.R_reads' RO1_9.out).2.1 HK6.out).mono ?_
    rintro e w10 ⟨v5, v6, rfl, hR5, hR6, hb⟩
    have HB10 := mz (below_step HB9.out hb)
    have Z10 := mz (hb).size
    have KC_10 := mz (blk_below KC_9.out hb)
    have KE_10 := mz (blk_below KE_9.out hb)
    have KW_10 := mz (blk_below KW_9.out hb)
    have KX_10 := mz (blk_below KX_9.out hb)
    have KO_10 := mz (blk_below KO.out hb)
    have RW5_10 := mz (Kd.R_below RW5_9.out hb)
    have RW6_10 := mz (Kd.R_below RW6_9.out hb)
    have RX5_10 := mz (Kd.R_below RX5_9.out hb)
    have RX6_10 := mz (Kd.R_below RX6_9.out hb)
    have RO1_10 := mz (Kd.R_below RO1_9.out hb)
    clear hb
    obtain ⟨G5, G5c, eo⟩ := Kd.R_slice hR5
    subst eo
    obtain ⟨G6, G6c, eo⟩ := Kd.R_slice hR6
    subst eo
    have HDG := mz (fun k e e' => hR5.1 k e e'.symm : ∀ k, (Value.slice G5 j6.length G5c).ownBlock = some k → ¬ (Value.slice G6 j7.length G6c).ownBlock = some k)
    have RG5 := mz (R_new hR5 HB9.out.size)
    have RG6 := mz (R_new hR6 HB9.out.size)
    clear hR5 hR6
    go_upto_region 12 with ((with_reducible refine gate_dst (N := 10) rfl ?_); refine bx 10 #[.int .i64 0, .string ⟨#[]⟩, .int .i64 0, .int .i64 0, .bool false, .slice none 0 0, .slice none 0 0, .bool false] 45 ?_; intro gG hg wx hbox hb; have HX := mz hg; have Bx := mz hb; have KX := mz hbox; obtain ⟨y0, y1, y2, y3, y4, y5, y6, y7⟩ := cells8 hbox; obtain ⟨z0, z1, z2, z3, z4, z5, z6, z7⟩ := froz8 hbox; clear hg hbox hb)
    have hp := put8 (.int .i64 j1) (.string j2) (.int .i64 j3) (.int .i64 j4) (.bool j5) (.slice G5 j6.length G5c) (.slice G6 j7.length G6c) (.bool j8) Bx.out (Nat.le_of_eq HX.out.symm) KX.out
    have KN := mz hp.1
    have Bz := mz hp.2.1
    clear hp y0 y1 y2 y3 y4 y5 y6 y7 z0 z1 z2 z3 z4 z5 z6 z7 Bx KX
    generalize (((((((wx.setCell ⟨gG, 0, none⟩ (.int .i64 j1)).setCell ⟨gG, 1, none⟩ (.string j2)).setCell ⟨gG, 2, none⟩ (.int .i64 j3)).setCell ⟨gG, 3, none⟩ (.int .i64 j4)).setCell ⟨gG, 4, none⟩ (.bool j5)).setCell ⟨gG, 5, none⟩ (.slice G5 j6.length G5c)).setCell ⟨gG, 6, none⟩ (.slice G6 j7.length G6c)).setCell ⟨gG, 7, none⟩ (.bool j8) = w11 at KN Bz ⊢
    have HB11 := mz (below_step HB10.out Bz.out)
    have Z11 := mz (Bz.out).size
    have KC_11 := mz (blk_below KC_10.out Bz.out)
    have KE_11 := mz (blk_below KE_10.out Bz.out)
    have KW_11 := mz (blk_below KW_10.out Bz.out)
    have KX_11 := mz (blk_below KX_10.out Bz.out)
    have KO_11 := mz (blk_below KO_10.out Bz.out)
    have RW5_11 := mz (Kd.R_below RW5_10.out Bz.out)
    have RW6_11 := mz (Kd.R_below RW6_10.out Bz.out)
    have RX5_11 := mz (Kd.R_below RX5_10.out Bz.out)
    have RX6_11 := mz (Kd.R_below RX6_10.out Bz.out)
    have RO1_11 := mz (Kd.R_below RO1_10.out Bz.out)
    have RG5_11 := mz (Kd.R_below RG5.out Bz.out)
    have RG6_11 := mz (Kd.R_below RG6.out Bz.out)
    have KG := mz KN.out
    have HGG := mz HX.out
    have HLG : Aside0 (gG < w11.heap.size) := ⟨blk_lt KN.out⟩
    clear KN Bz HX
    obtain ⟨G0, G1, G2, G3, G4, G5, G6, G7⟩ := cells8 KG.out
    obtain ⟨W0, W1, W2, W3, W4, W5, W6, W7⟩ := cells8 KW_11.out
    go_wp2_with fail
    clear G0 G1 G2 G3 G4 G5 G6 G7
    clear W0 W1 W2 W3 W4 W5 W6 W7
    refine (laws_eqClient.calls j1 j2 j3 j4 j5 G5 G5c j6 G6 G6c j7 j8 j1 j2 j3 j4 j5 W5 W5c j6 W6 W6c j7 j8 true _ (Kd.R_reads' RG5_11.out).2.2 (Kd.R_reads' RG5_11.out).2.1 (Kd.R_reads' RG6_11.out).2.2 (Kd.R_reads' RG6_11.out).2.1 (Kd.R_reads' RW5_11.out).2.2 (Kd.R_reads' RW5_11.out).2.1 (Kd.R_reads' RW6_11.out).2.2 (Kd.R_reads' RW6_11.out).2.1 HE1.out).mono ?_
    rintro e w12 ⟨rfl, hb⟩
    have HB12 := mz (below_step HB11.out hb)
    have Z12 := mz (hb).size
    have KC_12 := mz (blk_below KC_11.out hb)
    have KE_12 := mz (blk_below KE_11.out hb)
    have KW_12 := mz (blk_below KW_11.out hb)
    have KX_12 := mz (blk_below KX_11.out hb)
    have KO_12 := mz (blk_below KO_11.out hb)
    have KG_12 := mz (blk_below KG.out hb)
    have RW5_12 := mz (Kd.R_below RW5_11.out hb)
    have RW6_12 := mz (Kd.R_below RW6_11.out hb)
    have RX5_12 := mz (Kd.R_below RX5_11.out hb)
    have RX6_12 := mz (Kd.R_below RX6_11.out hb)
    have RO1_12 := mz (Kd.R_below RO1_11.out hb)
    have RG5_12 := mz (Kd.R_below RG5_11.out hb)
    have RG6_12 := mz (Kd.R_below RG6_11.out hb)
    clear hb
    go_upto_region 14 with fail
    have F : ∀ W' : World, (W'.heap[gX]? = some (.cells #[.int .i64 i, .string t, .int .i64 v, .int .i64 q, .bool b, .slice X5 (opOf s5).length X5c, .slice X6 (opOf s6).length X6c, .bool d] 45 (0, 0)) ∧ W'.heap[gC]? = some (.cells #[.int .i64 i, .string t, .int .i64 v, .int .i64 q, .bool b, .slice A5 s5.length c5, .slice A6 s6.length c6, .bool d] 42 (0, 0)) ∧ Below w12.heap.size w12 W') → (W'.cell? ⟨gX, 0, none⟩ = some (.int .i64 i) ∧ W'.cell? ⟨gX, 1, none⟩ = some (.string t) ∧ W'.cell? ⟨gX, 2, none⟩ = some (.int .i64 v) ∧ W'.cell? ⟨gX, 3, none⟩ = some (.int .i64 q) ∧ W'.cell? ⟨gX, 4, none⟩ = some (.bool b) ∧ W'.cell? ⟨gX, 5, none⟩ = some (.slice X5 (opOf s5).length X5c) ∧ W'.cell? ⟨gX, 6, none⟩ = some (.slice X6 (opOf s6).length X6c) ∧ W'.cell? ⟨gX, 7, none⟩ = some (.bool d)) ∧ (W'.cell? ⟨gC, 0, none⟩ = some (.int .i64 i) ∧ W'.cell? ⟨gC, 1, none⟩ = some (.string t) ∧ W'.cell? ⟨gC, 2, none⟩ = some (.int .i64 v) ∧ W'.cell? ⟨gC, 3, none⟩ = some (.int .i64 q) ∧ W'.cell? ⟨gC, 4, none⟩ = some (.bool b) ∧ W'.cell? ⟨gC, 5, none⟩ = some (.slice A5 s5.length c5) ∧ W'.cell? ⟨gC, 6, none⟩ = some (.slice A6 s6.length c6) ∧ W'.cell? ⟨gC, 7, none⟩ = some (.bool d)) := fun W' hb => ⟨cells8 hb.1, cells8 hb.2.1⟩
    refine wp_region_held_drew (S := fun W' => W'.heap[gX]? = some (.cells #[.int .i64 i, .string t, .int .i64 v, .int .i64 q, .bool b, .slice X5 (opOf s5).length X5c, .slice X6 (opOf s6).length X6c, .bool d] 45 (0, 0)) ∧ W'.heap[gC]? = some (.cells #[.int .i64 i, .string t, .int .i64 v, .int .i64 q, .bool b, .slice A5 s5.length c5, .slice A6 s6.length c6, .bool d] 42 (0, 0)) ∧ Below w12.heap.size w12 W') (by kernel_rfl) ⟨KX_12.out, KC_12.out, below_drew1 (Below.refl _ _)⟩ (fun Y => ?_)
    refine' tF 0 F ?_
    refine' tF 1 F ?_
    refine tC 2 (laws_toClient.calls K3 i t v q b A5 c5 s5 A6 c6 s6 d i t v q b (opOf s5) (opOf s6) d _ (Kd.C_below U5.out (below_step HB12.out Y.2.2)) E5.out (Kd.C_below U6.out (below_step HB12.out Y.2.2)) E6.out HK3.out) ?_
    rintro e wa ⟨v5, v6, rfl, hR5, hR6, hb⟩
    obtain ⟨T5, T5c, eo⟩ := Kd.R_slice hR5
    subst eo
    obtain ⟨T6, T6c, eo⟩ := Kd.R_slice hR6
    subst eo
    have RT5 := mz hR5
    have RT6 := mz hR6
    clear hR5 hR6
    refine ⟨_, rfl, ⟨blk_below Y.1 hb, blk_below Y.2.1 hb, below_step Y.2.2 hb⟩, ?_⟩
    intro a' ha'
    (try simp only [Act.put, List.getElem_toArray, List.getElem_cons_succ, List.getElem_cons_zero, List.setIfInBounds_toArray, List.set_cons_zero, List.set_cons_succ] at ha')
    subst ha'
    intro Y2
    refine tC 3 (laws_eqClient.calls i t v q b X5 X5c (opOf s5) X6 X6c (opOf s6) d i t v q b T5 T5c (opOf s5) T6 T6c (opOf s6) d true _ (Kd.R_reads' (Kd.R_below RX5_12.out Y2.2.2)).2.2 (Kd.R_reads' RX5_12.out).2.1 (Kd.R_reads' (Kd.R_below RX6_12.out Y2.2.2)).2.2 (Kd.R_reads' RX6_12.out).2.1 (Kd.R_reads' RT5.out).2.2 (Kd.R_reads' RT5.out).2.1 (Kd.R_reads' RT6.out).2.2 (Kd.R_reads' RT6.out).2.1 HE2.out) ?_
    rintro e wb ⟨rfl, hb⟩
    refine ⟨_, rfl, ⟨blk_below Y2.1 hb, blk_below Y2.2.1 hb, below_step Y2.2.2 hb⟩, ?_⟩
    intro a' ha'
    (try simp only [Act.put, List.getElem_toArray, List.getElem_cons_succ, List.getElem_cons_zero, List.setIfInBounds_toArray, List.set_cons_zero, List.set_cons_succ] at ha')
    subst ha'
    intro Y3
    refine' tF 4 F ?_
    refine wpAnyH_done (by kernel_rfl) ?_ _
    have hb := Y3.2.2
    clear F Y Y2 Y3 RT5 RT6
    generalize wb = w13 at hb ⊢
    have HB13 := mz (below_step HB12.out hb)
    have Z13 := mz (hb).size
    have KC_13 := mz (blk_below KC_12.out hb)
    have KE_13 := mz (blk_below KE_12.out hb)
    have KW_13 := mz (blk_below KW_12.out hb)
    have KX_13 := mz (blk_below KX_12.out hb)
    have KO_13 := mz (blk_below KO_12.out hb)
    have KG_13 := mz (blk_below KG_12.out hb)
    have RW5_13 := mz (Kd.R_below RW5_12.out hb)
    have RW6_13 := mz (Kd.R_below RW6_12.out hb)
    have RX5_13 := mz (Kd.R_below RX5_12.out hb)
    have RX6_13 := mz (Kd.R_below RX6_12.out hb)
    have RO1_13 := mz (Kd.R_below RO1_12.out hb)
    have RG5_13 := mz (Kd.R_below RG5_12.out hb)
    have RG6_13 := mz (Kd.R_below RG6_12.out hb)
    clear hb
    go_upto_region 16 with fail
    have F : ∀ W' : World, (W'.heap[gO]? = some (.cells #[.int .i64 e0, .int .i64 e1, .slice O1 (opOf op).length O1c] 57 (0, 0)) ∧ W'.heap[gE]? = some (.cells #[.int .i64 e0, .int .i64 e1, .slice A1 op.length c1] 53 (0, 0)) ∧ Below w13.heap.size w13 W') → (W'.cell? ⟨gO, 0, none⟩ = some (.int .i64 e0) ∧ W'.cell? ⟨gO, 1, none⟩ = some (.int .i64 e1) ∧ W'.cell? ⟨gO, 2, none⟩ = some (.slice O1 (opOf op).length O1c)) ∧ (W'.cell? ⟨gE, 0, none⟩ = some (.int .i64 e0) ∧ W'.cell? ⟨gE, 1, none⟩ = some (.int .i64 e1) ∧ W'.cell? ⟨gE, 2, none⟩ = some (.slice A1 op.length c1)) := fun W' hb => ⟨cells3 hb.1, cells3 hb.2.1⟩
    refine wp_region_held_drew (S := fun W' => W'.heap[gO]? = some (.cells #[.int .i64 e0, .int .i64 e1, .slice O1 (opOf op).length O1c] 57 (0, 0)) ∧ W'.heap[gE]? = some (.cells #[.int .i64 e0, .int .i64 e1, .slice A1 op.length c1] 53 (0, 0)) ∧ Below w13.heap.size w13 W') (by kernel_rfl) ⟨KO_13.out, KE_13.out, below_drew1 (Below.refl _ _)⟩ (fun Y => ?_)
    refine' tF 0 F ?_
    refine' tF 1 F ?_
    refine tC 2 (laws_toEntry.calls K4 e0 e1 A1 c1 op e0 e1 (opOf op) _ (Kd.C_below U1.out (below_step HB13.out Y.2.2)) E1.out HK4.out) ?_
    rintro e wa ⟨vo, rfl, hRo, hb⟩
    obtain ⟨T5, T5c, eo⟩ := Kd.R_slice hRo
    subst eo
    have RT5 := mz hRo
    clear hRo
    refine ⟨_, rfl, ⟨blk_below Y.1 hb, blk_below Y.2.1 hb, below_step Y.2.2 hb⟩, ?_⟩
    intro a' ha'
    (try simp only [Act.put, List.getElem_toArray, List.getElem_cons_succ, List.getElem_cons_zero, List.setIfInBounds_toArray, List.set_cons_zero, List.set_cons_succ] at ha')
    subst ha'
    intro Y2
    refine tC 3 (laws_eqEntry.calls K7 e0 e1 O1 O1c (opOf op) e0 e1 T5 T5c (opOf op) true _ (Kd.R_reads' (Kd.R_below RO1_13.out Y2.2.2)).2.2 (Kd.R_reads' RO1_13.out).2.1 (Kd.R_reads' RT5.out).2.2 (Kd.R_reads' RT5.out).2.1 HK7.out) ?_
    rintro e wb ⟨rfl, hb⟩
    refine ⟨_, rfl, ⟨blk_below Y2.1 hb, blk_below Y2.2.1 hb, below_step Y2.2.2 hb⟩, ?_⟩
    intro a' ha'
    (try simp only [Act.put, List.getElem_toArray, List.getElem_cons_succ, List.getElem_cons_zero, List.setIfInBounds_toArray, List.set_cons_zero, List.set_cons_succ] at ha')
    subst ha'
    intro Y3
    refine' tF 4 F ?_
    refine wpAnyH_done (by kernel_rfl) ?_ _
    have hb := Y3.2.2
    clear F Y Y2 Y3 RT5
    generalize wb = w14 at hb ⊢
    have HB14 := mz (below_step HB13.out hb)
    have Z14 := mz (hb).size
    have KC_14 := mz (blk_below KC_13.out hb)
    have KE_14 := mz (blk_below KE_13.out hb)
    have KW_14 := mz (blk_below KW_13.out hb)
    have KX_14 := mz (blk_below KX_13.out hb)
    have KO_14 := mz (blk_below KO_13.out hb)
    have KG_14 := mz (blk_below KG_13.out hb)
    have RW5_14 := mz (Kd.R_below RW5_13.out hb)
    have RW6_14 := mz (Kd.R_below RW6_13.out hb)
    have RX5_14 := mz (Kd.R_below RX5_13.out hb)
    have RX6_14 := mz (Kd.R_below RX6_13.out hb)
    have RO1_14 := mz (Kd.R_below RO1_13.out hb)
    have RG5_14 := mz (Kd.R_below RG5_13.out hb)
    have RG6_14 := mz (Kd.R_below RG6_13.out hb)
    clear hb
    obtain ⟨X0, X1, X2, X3, X4, X5, X6, X7⟩ := cells8 KX_14.out
    go_wp2_with fail
    clear X0 X1 X2 X3 X4 X5 X6 X7
    have q5 := R_self RX5_14.out
    have q6 := R_self RX6_14.out
    have qd := HDX.out
    refine (laws_markClient.calls K8 i t v q b (fun k => (Value.slice X5 (opOf s5).length X5c).ownBlock = some k) (.slice X5 (opOf s5).length X5c) (opOf s5) (fun k => (Value.slice X6 (opOf s6).length X6c).ownBlock = some k) (.slice X6 (opOf s6).length X6c) (opOf s6) d 1 m1 (markP 1 (opOf s5)) (markP (1 + 3 * ((opOf s5).length : Int)) (opOf s6)) w _ HB14.out q5 qd q6 (fun k h h' => qd k h' h) HK8.out).mono ?_
    rintro e w15 ⟨rfl, hM5, hM6, hb, hk⟩
    replace hk := kept_sub (S' := fun k => w5.heap.size ≤ k ∧ k < w6.heap.size) hk (fun k hk => (by rcases hk with e | e; (· exact RX5_14.out.1 k e); (· exact RX6_14.out.1 k e)))
    clear q5 q6 qd
    have z1 := Z1.out
    have z2 := Z2.out
    have z3 := Z3.out
    have z4 := Z4.out
    have z5 := Z5.out
    have z6 := Z6.out
    have z7 := Z7.out
    have z8 := Z8.out
    have z9 := Z9.out
    have z10 := Z10.out
    have z11 := Z11.out
    have z12 := Z12.out
    have z13 := Z13.out
    have z14 := Z14.out
    have g1C := HGC.out
    have g1E := HGE.out
    have g1W := HGW.out
    have g1X := HGX.out
    have g1O := HGO.out
    have g1G := HGG.out
    have g2C := HLC.out
    have g2E := HLE.out
    have g2W := HLW.out
    have g2X := HLX.out
    have g2O := HLO.out
    have g2G := HLG.out
    have HB15 := mz hb
    have Z15 := mz hk.1
    have KC_15 := mz (blk_keptE KC_14.out hk (fun h => by have ha := h.1; have hc := h.2; omega))
    have KE_15 := mz (blk_keptE KE_14.out hk (fun h => by have ha := h.1; have hc := h.2; omega))
    have KW_15 := mz (blk_keptE KW_14.out hk (fun h => by have ha := h.1; have hc := h.2; omega))
    have KX_15 := mz (blk_keptE KX_14.out hk (fun h => by have ha := h.1; have hc := h.2; omega))
    have KO_15 := mz (blk_keptE KO_14.out hk (fun h => by have ha := h.1; have hc := h.2; omega))
    have KG_15 := mz (blk_keptE KG_14.out hk (fun h => by have ha := h.1; have hc := h.2; omega))
    have RW5_15 := mz (R_keptE RW5_14.out hk (fun k h1 h2 h => by have ha := h.1; have hc := h.2; omega))
    have RW6_15 := mz (R_keptE RW6_14.out hk (fun k h1 h2 h => by have ha := h.1; have hc := h.2; omega))
    have RO1_15 := mz (R_keptE RO1_14.out hk (fun k h1 h2 h => by have ha := h.1; have hc := h.2; omega))
    have RG5_15 := mz (R_keptE RG5_14.out hk (fun k h1 h2 h => by have ha := h.1; have hc := h.2; omega))
    have RG6_15 := mz (R_keptE RG6_14.out hk (fun k h1 h2 h => by have ha := h.1; have hc := h.2; omega))
    clear z1 z2 z3 z4 z5 z6 z7 z8 z9 z10 z11 z12 z13 z14 g1C g2C g1E g2E g1W g2W g1X g2X g1O g2O g1G g2G
    have RM5X := mz hM5
    have RM6X := mz hM6
    clear hb hk hM5 hM6
    obtain ⟨kO0, kO1, kO2⟩ := cells3 KO_15.out
    go_wp2_with fail
    clear kO0 kO1 kO2
    refine (laws_markEntry.calls K9 e0 e1 (fun k => w7.heap.size ≤ k ∧ k < w8.heap.size) (.slice O1 (opOf op).length O1c) (opOf op) m1 m2 (markP m1 (opOf op)) w _ HB15.out RO1_15.out HK9.out).mono ?_
    rintro e w16 ⟨rfl, hM, hb, hk⟩
    have z1 := Z1.out
    have z2 := Z2.out
    have z3 := Z3.out
    have z4 := Z4.out
    have z5 := Z5.out
    have z6 := Z6.out
    have z7 := Z7.out
    have z8 := Z8.out
    have z9 := Z9.out
    have z10 := Z10.out
    have z11 := Z11.out
    have z12 := Z12.out
    have z13 := Z13.out
    have z14 := Z14.out
    have z15 := Z15.out
    have g1C := HGC.out
    have g1E := HGE.out
    have g1W := HGW.out
    have g1X := HGX.out
    have g1O := HGO.out
    have g1G := HGG.out
    have g2C := HLC.out
    have g2E := HLE.out
    have g2W := HLW.out
    have g2X := HLX.out
    have g2O := HLO.out
    have g2G := HLG.out
    have HB16 := mz hb
    have Z16 := mz hk.1
    have KC_16 := mz (blk_keptE KC_15.out hk (fun h => by have ha := h.1; have hc := h.2; omega))
    have KE_16 := mz (blk_keptE KE_15.out hk (fun h => by have ha := h.1; have hc := h.2; omega))
    have KW_16 := mz (blk_keptE KW_15.out hk (fun h => by have ha := h.1; have hc := h.2; omega))
    have KX_16 := mz (blk_keptE KX_15.out hk (fun h => by have ha := h.1; have hc := h.2; omega))
    have KO_16 := mz (blk_keptE KO_15.out hk (fun h => by have ha := h.1; have hc := h.2; omega))
    have KG_16 := mz (blk_keptE KG_15.out hk (fun h => by have ha := h.1; have hc := h.2; omega))
    have RW5_16 := mz (R_keptE RW5_15.out hk (fun k h1 h2 h => by have ha := h.1; have hc := h.2; omega))
    have RW6_16 := mz (R_keptE RW6_15.out hk (fun k h1 h2 h => by have ha := h.1; have hc := h.2; omega))
    have RG5_16 := mz (R_keptE RG5_15.out hk (fun k h1 h2 h => by have ha := h.1; have hc := h.2; omega))
    have RG6_16 := mz (R_keptE RG6_15.out hk (fun k h1 h2 h => by have ha := h.1; have hc := h.2; omega))
    clear z1 z2 z3 z4 z5 z6 z7 z8 z9 z10 z11 z12 z13 z14 z15 g1C g2C g1E g2E g1W g2W g1X g2X g1O g2O g1G g2G
    clear hb hk hM
    obtain ⟨G0, G1, G2, G3, G4, G5, G6, G7⟩ := cells8 KG_16.out
    obtain ⟨W0, W1, W2, W3, W4, W5, W6, W7⟩ := cells8 KW_16.out
    go_wp2_with fail
    clear G0 G1 G2 G3 G4 G5 G6 G7
    clear W0 W1 W2 W3 W4 W5 W6 W7
    refine (laws_eqClient.calls j1 j2 j3 j4 j5 G5 G5c j6 G6 G6c j7 j8 j1 j2 j3 j4 j5 W5 W5c j6 W6 W6c j7 j8 true _ (Kd.R_reads' RG5_16.out).2.2 (Kd.R_reads' RG5_16.out).2.1 (Kd.R_reads' RG6_16.out).2.2 (Kd.R_reads' RG6_16.out).2.1 (Kd.R_reads' RW5_16.out).2.2 (Kd.R_reads' RW5_16.out).2.1 (Kd.R_reads' RW6_16.out).2.2 (Kd.R_reads' RW6_16.out).2.1 HE1.out).mono ?_
    rintro e w17 ⟨rfl, hb⟩
    have HB17 := mz (below_step HB16.out hb)
    have Z17 := mz (hb).size
    have KC_17 := mz (blk_below KC_16.out hb)
    have KE_17 := mz (blk_below KE_16.out hb)
    have KW_17 := mz (blk_below KW_16.out hb)
    have KX_17 := mz (blk_below KX_16.out hb)
    have KO_17 := mz (blk_below KO_16.out hb)
    have KG_17 := mz (blk_below KG_16.out hb)
    have RW5_17 := mz (Kd.R_below RW5_16.out hb)
    have RW6_17 := mz (Kd.R_below RW6_16.out hb)
    have RG5_17 := mz (Kd.R_below RG5_16.out hb)
    have RG6_17 := mz (Kd.R_below RG6_16.out hb)
    clear hb
    obtain ⟨G0, G1, G2, G3, G4, G5, G6, G7⟩ := cells8 KG_17.out
    go_wp2_with fail
    clear G0 G1 G2 G3 G4 G5 G6 G7
    have q5 := R_self RG5_17.out
    have q6 := R_self RG6_17.out
    have qd := HDG.out
    refine (laws_markClient.calls K10 j1 j2 j3 j4 j5 (fun k => (Value.slice G5 j6.length G5c).ownBlock = some k) (.slice G5 j6.length G5c) j6 (fun k => (Value.slice G6 j7.length G6c).ownBlock = some k) (.slice G6 j7.length G6c) j7 j8 1 m3 (markP 1 j6) (markP (1 + 3 * (j6.length : Int)) j7) w _ HB17.out q5 qd q6 (fun k h h' => qd k h' h) HK10.out).mono ?_
    rintro e w18 ⟨rfl, hM5, hM6, hb, hk⟩
    replace hk := kept_sub (S' := fun k => w9.heap.size ≤ k ∧ k < w10.heap.size) hk (fun k hk => (by rcases hk with e | e; (· exact RG5_17.out.1 k e); (· exact RG6_17.out.1 k e)))
    clear q5 q6 qd
    have z1 := Z1.out
    have z2 := Z2.out
    have z3 := Z3.out
    have z4 := Z4.out
    have z5 := Z5.out
    have z6 := Z6.out
    have z7 := Z7.out
    have z8 := Z8.out
    have z9 := Z9.out
    have z10 := Z10.out
    have z11 := Z11.out
    have z12 := Z12.out
    have z13 := Z13.out
    have z14 := Z14.out
    have z15 := Z15.out
    have z16 := Z16.out
    have z17 := Z17.out
    have g1C := HGC.out
    have g1E := HGE.out
    have g1W := HGW.out
    have g1X := HGX.out
    have g1O := HGO.out
    have g1G := HGG.out
    have g2C := HLC.out
    have g2E := HLE.out
    have g2W := HLW.out
    have g2X := HLX.out
    have g2O := HLO.out
    have g2G := HLG.out
    have HB18 := mz hb
    have Z18 := mz hk.1
    have KC_18 := mz (blk_keptE KC_17.out hk (fun h => by have ha := h.1; have hc := h.2; omega))
    have KE_18 := mz (blk_keptE KE_17.out hk (fun h => by have ha := h.1; have hc := h.2; omega))
    have KW_18 := mz (blk_keptE KW_17.out hk (fun h => by have ha := h.1; have hc := h.2; omega))
    have KX_18 := mz (blk_keptE KX_17.out hk (fun h => by have ha := h.1; have hc := h.2; omega))
    have KO_18 := mz (blk_keptE KO_17.out hk (fun h => by have ha := h.1; have hc := h.2; omega))
    have KG_18 := mz (blk_keptE KG_17.out hk (fun h => by have ha := h.1; have hc := h.2; omega))
    have RW5_18 := mz (R_keptE RW5_17.out hk (fun k h1 h2 h => by have ha := h.1; have hc := h.2; omega))
    have RW6_18 := mz (R_keptE RW6_17.out hk (fun k h1 h2 h => by have ha := h.1; have hc := h.2; omega))
    clear z1 z2 z3 z4 z5 z6 z7 z8 z9 z10 z11 z12 z13 z14 z15 z16 z17 g1C g2C g1E g2E g1W g2W g1X g2X g1O g2O g1G g2G
    have RM5G := mz hM5
    have RM6G := mz hM6
    clear hb hk hM5 hM6
    obtain ⟨G0, G1, G2, G3, G4, G5, G6, G7⟩ := cells8 KG_18.out
    go_wp2_with fail
    clear G0 G1 G2 G3 G4 G5 G6 G7
    refine (heldC_at j1 j2 j3 j4 j5 G5 G5c j6 G6 G6c j7 j8 _ _ _ _ RM5G.out RM6G.out K11 m3 HK11.out).mono ?_
    rintro e w19 ⟨rfl, hb⟩
    have HB19 := mz (below_step HB18.out hb)
    have Z19 := mz (hb).size
    have KC_19 := mz (blk_below KC_18.out hb)
    have KE_19 := mz (blk_below KE_18.out hb)
    have KW_19 := mz (blk_below KW_18.out hb)
    have KX_19 := mz (blk_below KX_18.out hb)
    have KO_19 := mz (blk_below KO_18.out hb)
    have KG_19 := mz (blk_below KG_18.out hb)
    have RW5_19 := mz (Kd.R_below RW5_18.out hb)
    have RW6_19 := mz (Kd.R_below RW6_18.out hb)
    have RM5_19 := mz (Kd.R_below RM5G.out hb)
    have RM6_19 := mz (Kd.R_below RM6G.out hb)
    clear hb
    go_upto_region 31 with fail
    go_cut [15, 16] (fun zp zb wc => ∃ (gH : Nat) (H5 : Option Addr) (H5c : Nat) (H6 : Option Addr) (H6c : Nat), zp = .pointer (some ⟨gH, 0, none⟩) ∧ zb = .bool j9 ∧ Aside0 (wc.heap[gH]? = some (.cells #[.int .i64 j1, .string j2, .int .i64 j3, .int .i64 j4, .bool j5, .slice H5 j6.length H5c, .slice H6 j7.length H6c, .bool j8] 45 (0, 0))) ∧ Aside0 (Kd.R k86 86 wc w.heap.size (fun k => w19.heap.size ≤ k ∧ k < wc.heap.size) (.slice H5 j6.length H5c) j6) ∧ Aside0 (Kd.R k86 86 wc w.heap.size (fun k => w19.heap.size ≤ k ∧ k < wc.heap.size) (.slice H6 j7.length H6c) j7) ∧ Aside0 (Below w19.heap.size w19 wc) ∧ Aside0 (w19.heap.size ≤ gH))
    case first =>
     have F : ∀ W' : World, (W'.heap[gC]? = some (.cells #[.int .i64 i, .string t, .int .i64 v, .int .i64 q, .bool b, .slice A5 s5.length c5, .slice A6 s6.length c6, .bool d] 42 (0, 0)) ∧ W'.heap[gE]? = some (.cells #[.int .i64 e0, .int .i64 e1, .slice A1 op.length c1] 53 (0, 0)) ∧ Below w19.heap.size w19 W') → (W'.cell? ⟨gC, 0, none⟩ = some (.int .i64 i) ∧ W'.cell? ⟨gC, 1, none⟩ = some (.string t) ∧ W'.cell? ⟨gC, 2, none⟩ = some (.int .i64 v) ∧ W'.cell? ⟨gC, 3, none⟩ = some (.int .i64 q) ∧ W'.cell? ⟨gC, 4, none⟩ = some (.bool b) ∧ W'.cell? ⟨gC, 5, none⟩ = some (.slice A5 s5.length c5) ∧ W'.cell? ⟨gC, 6, none⟩ = some (.slice A6 s6.length c6) ∧ W'.cell? ⟨gC, 7, none⟩ = some (.bool d)) ∧ (W'.cell? ⟨gE, 0, none⟩ = some (.int .i64 e0) ∧ W'.cell? ⟨gE, 1, none⟩ = some (.int .i64 e1) ∧ W'.cell? ⟨gE, 2, none⟩ = some (.slice A1 op.length c1)) := fun W' hb => ⟨cells8 hb.1, cells3 hb.2.1⟩
     refine wp_region_held_drew (S := fun W' => W'.heap[gC]? = some (.cells #[.int .i64 i, .string t, .int .i64 v, .int .i64 q, .bool b, .slice A5 s5.length c5, .slice A6 s6.length c6, .bool d] 42 (0, 0)) ∧ W'.heap[gE]? = some (.cells #[.int .i64 e0, .int .i64 e1, .slice A1 op.length c1] 53 (0, 0)) ∧ Below w19.heap.size w19 W') (by kernel_rfl) ⟨KC_19.out, KE_19.out, below_drew1 (Below.refl _ _)⟩ (fun Y => ?_)
     refine' tF 0 F ?_
     refine' tF 2 F ?_
     refine tCB 1 8 #[.int .i64 0, .string ⟨#[]⟩, .int .i64 0, .int .i64 0, .bool false, .slice none 0 0, .slice none 0 0, .bool false] 45 (laws_toClient.calls K3 i t v q b A5 c5 s5 A6 c6 s6 d i t v q b (opOf s5) (opOf s6) d _ (Kd.C_below U5.out (below_step HB19.out Y.2.2)) E5.out (Kd.C_below U6.out (below_step HB19.out Y.2.2)) E6.out HK3.out) ?_ ?_
     ·rintro e wq1 ⟨v5, v6, rfl, hR5, hR6, hb⟩
      refine ⟨_, rfl, ⟨blk_below Y.1 hb, blk_below Y.2.1 hb, below_step Y.2.2 hb⟩, ?_⟩
      intro a' ha'
      (try simp only [Act.put, List.getElem_toArray, List.getElem_cons_succ, List.getElem_cons_zero, List.setIfInBounds_toArray, List.set_cons_zero, List.set_cons_succ] at ha')
      subst ha'
      intro Y1
      obtain ⟨S5, S5c, eo⟩ := Kd.R_slice hR5
      subst eo
      obtain ⟨S6, S6c, eo⟩ := Kd.R_slice hR6
      subst eo
      have RS5 := mz hR5
      have RS6 := mz hR6
      clear hR5 hR6
      clear hb
      refine tCB 3 8 #[.int .i64 0, .string ⟨#[]⟩, .int .i64 0, .int .i64 0, .bool false, .slice none 0 0, .slice none 0 0, .bool false] 45 (laws_toEntry.calls K4 e0 e1 A1 c1 op e0 e1 (opOf op) _ (Kd.C_below U1.out (below_step HB19.out Y1.2.2)) E1.out HK4.out) ?_ ?_
      ·rintro e wq2 ⟨vo, rfl, hRo, hb⟩
       refine ⟨_, rfl, ⟨blk_below Y1.1 hb, blk_below Y1.2.1 hb, below_step Y1.2.2 hb⟩, ?_⟩
       intro a' ha'
       (try simp only [Act.put, List.getElem_toArray, List.getElem_cons_succ, List.getElem_cons_zero, List.setIfInBounds_toArray, List.set_cons_zero, List.set_cons_succ] at ha')
       subst ha'
       intro Y2
       have RS5c := mz (Kd.R_below RS5.out hb)
       have RS6c := mz (Kd.R_below RS6.out hb)
       obtain ⟨O, Oc, eo⟩ := Kd.R_slice hRo
       subst eo
       have RO := mz hRo
       clear hRo
       clear hb
       refine tCB 4 8 #[.int .i64 0, .string ⟨#[]⟩, .int .i64 0, .int .i64 0, .bool false, .slice none 0 0, .slice none 0 0, .bool false] 45 (impl_HearEntry.calls i t v q b S5 S5c (opOf s5) S6 S6c (opOf s6) d e0 e1 O Oc (opOf op) j1 j2 j3 j4 j5 j6 j7 j8 j9 _ (Kd.R_reads' RS5c.out).2.2 (Kd.R_reads' RS5c.out).2.1 (Kd.R_reads' RS6c.out).2.2 (Kd.R_reads' RS6c.out).2.1 (Kd.R_reads' RO.out).2.2 (Kd.R_reads' RO.out).2.1 HK6.out) ?_ ?_
       ·rintro e wq3 ⟨v5, v6, rfl, hR5, hR6, hb⟩
        refine ⟨_, rfl, ⟨blk_below Y2.1 hb, blk_below Y2.2.1 hb, below_step Y2.2.2 hb⟩, ?_⟩
        intro a' ha'
        (try simp only [Act.put, List.getElem_toArray, List.getElem_cons_succ, List.getElem_cons_zero, List.setIfInBounds_toArray, List.set_cons_zero, List.set_cons_succ] at ha')
        subst ha'
        intro Y3
        have RS5cc := mz (Kd.R_below RS5c.out hb)
        have RS6cc := mz (Kd.R_below RS6c.out hb)
        have ROc := mz (Kd.R_below RO.out hb)
        obtain ⟨H5, H5c, eo⟩ := Kd.R_slice hR5
        subst eo
        obtain ⟨H6, H6c, eo⟩ := Kd.R_slice hR6
        subst eo
        obtain ⟨lo, hlo⟩ : ∃ lo, lo = wq2.heap.size := ⟨_, rfl⟩
        obtain ⟨hi, hhi⟩ : ∃ hi, hi = wq3.heap.size := ⟨_, rfl⟩
        have RW5 : Aside0 (Kd.R k86 86 wq3 w.heap.size (fun k => lo ≤ k ∧ k < hi) (.slice H5 j6.length H5c) j6) := ⟨by rw [hlo, hhi]; exact R_new hR5 (below_step HB19.out Y2.2.2).size⟩
        have RW6 : Aside0 (Kd.R k86 86 wq3 w.heap.size (fun k => lo ≤ k ∧ k < hi) (.slice H6 j7.length H6c) j7) := ⟨by rw [hlo, hhi]; exact R_new hR6 (below_step HB19.out Y2.2.2).size⟩
        have HLO : Aside0 (w19.heap.size ≤ lo) := ⟨by rw [hlo]; exact Y2.2.2.size⟩
        have HHE : Aside0 (hi = wq3.heap.size) := ⟨hhi⟩
        clear hR5 hR6 hlo hhi
        clear hb
        refine' tF 5 F ?_
        refine' tF 6 F ?_
        refine' tF 7 F ?_
        refine tB 8 #[.int .i64 0, .string ⟨#[]⟩, .int .i64 0, .int .i64 0, .bool false, .slice none 0 0, .slice none 0 0, .bool false] 45 ?_
        intro gH hg wb4 hbox hb
        refine ⟨⟨blk_below Y3.1 hb, blk_below Y3.2.1 hb, below_step Y3.2.2 hb⟩, ?_⟩
        intro a' ha'
        (try simp only [Act.put, List.getElem_toArray, List.getElem_cons_succ, List.getElem_cons_zero, List.setIfInBounds_toArray, List.set_cons_zero, List.set_cons_succ] at ha')
        subst ha'
        intro Y4
        have RW5b := mz (Kd.R_below RW5.out hb)
        have RW6b := mz (Kd.R_below RW6.out hb)
        have HX := mz hbox
        have HGn : Aside0 (w19.heap.size ≤ gH) := ⟨by rw [hg]; exact Y3.2.2.size⟩
        have HOW : Aside0 (gH < lo ∨ hi ≤ gH) := ⟨.inr (by rw [hg]; exact Nat.le_of_eq HHE.out)⟩
        have HHI : Aside0 (hi ≤ wb4.heap.size) := ⟨by have h1 := hb.size; have h2 := HHE.out; omega⟩
        clear hg hbox hb
        have hp := put8 (.int .i64 j1) (.string j2) (.int .i64 j3) (.int .i64 j4) (.bool j5) (.slice H5 j6.length H5c) (.slice H6 j7.length H6c) (.bool j8) Y4.2.2 HGn.out HX.out
        have hlt : gC < w19.heap.size ∧ gE < w19.heap.size := ⟨blk_lt KC_19.out, blk_lt KE_19.out⟩
        obtain ⟨u0, u1, u2, u3, u4, u5, u6, u7⟩ := cells8 HX.out
        obtain ⟨z0, z1, z2, z3, z4, z5, z6, z7⟩ := froz8 HX.out
        refine tS 9 ⟨blk_kp Y4.1 hp.2.2 (by have := HGn.out; omega), blk_kp Y4.2.1 hp.2.2 (by have := HGn.out; omega), hp.2.1⟩ ?_
        intro Y5
        clear u0 u1 u2 u3 u4 u5 u6 u7 z0 z1 z2 z3 z4 z5 z6 z7
        refine' tF 10 F ?_
        refine wpAnyH_done (by kernel_rfl) ?_ _
        have q5 := R_off RW5b.out hp.2.2 HOW.out
        have q6 := R_off RW6b.out hp.2.2 HOW.out
        have hsz := hp.2.2.1
        have hhi := HHI.out
        go_wp2_with fail
        go_meet
        case rel => exact ⟨gH, H5, H5c, H6, H6c, rfl, rfl, ⟨hp.1⟩, ⟨R_wide q5 HLO.out (Nat.le_trans hhi hsz)⟩, ⟨R_wide q6 HLO.out (Nat.le_trans hhi hsz)⟩, ⟨Y5.2.2⟩, HGn⟩
       ·intro gH hg wb6 hbox hb
        refine ⟨⟨blk_below Y2.1 hb, blk_below Y2.2.1 hb, below_step Y2.2.2 hb⟩, ?_⟩
        intro a' ha'
        (try simp only [Act.put, List.getElem_toArray, List.getElem_cons_succ, List.getElem_cons_zero, List.setIfInBounds_toArray, List.set_cons_zero, List.set_cons_succ] at ha')
        subst ha'
        intro Y6
        have RS5cb := mz (Kd.R_below RS5c.out hb)
        have RS6cb := mz (Kd.R_below RS6c.out hb)
        have ROb := mz (Kd.R_below RO.out hb)
        have HX := mz hbox
        have HGn : Aside0 (w19.heap.size ≤ gH) := ⟨by rw [hg]; exact Y2.2.2.size⟩
        clear hg hbox hb
        refine tC 4 (impl_HearEntry.calls i t v q b S5 S5c (opOf s5) S6 S6c (opOf s6) d e0 e1 O Oc (opOf op) j1 j2 j3 j4 j5 j6 j7 j8 j9 _ (Kd.R_reads' RS5cb.out).2.2 (Kd.R_reads' RS5cb.out).2.1 (Kd.R_reads' RS6cb.out).2.2 (Kd.R_reads' RS6cb.out).2.1 (Kd.R_reads' ROb.out).2.2 (Kd.R_reads' ROb.out).2.1 HK6.out) ?_
        rintro e wq7 ⟨v5, v6, rfl, hR5, hR6, hb⟩
        refine ⟨_, rfl, ⟨blk_below Y6.1 hb, blk_below Y6.2.1 hb, below_step Y6.2.2 hb⟩, ?_⟩
        intro a' ha'
        (try simp only [Act.put, List.getElem_toArray, List.getElem_cons_succ, List.getElem_cons_zero, List.setIfInBounds_toArray, List.set_cons_zero, List.set_cons_succ] at ha')
        subst ha'
        intro Y7
        have RS5cbc := mz (Kd.R_below RS5cb.out hb)
        have RS6cbc := mz (Kd.R_below RS6cb.out hb)
        have RObc := mz (Kd.R_below ROb.out hb)
        obtain ⟨H5, H5c, eo⟩ := Kd.R_slice hR5
        subst eo
        obtain ⟨H6, H6c, eo⟩ := Kd.R_slice hR6
        subst eo
        obtain ⟨lo, hlo⟩ : ∃ lo, lo = wb6.heap.size := ⟨_, rfl⟩
        obtain ⟨hi, hhi⟩ : ∃ hi, hi = wq7.heap.size := ⟨_, rfl⟩
        have RW5 : Aside0 (Kd.R k86 86 wq7 w.heap.size (fun k => lo ≤ k ∧ k < hi) (.slice H5 j6.length H5c) j6) := ⟨by rw [hlo, hhi]; exact R_new hR5 (below_step HB19.out Y6.2.2).size⟩
        have RW6 : Aside0 (Kd.R k86 86 wq7 w.heap.size (fun k => lo ≤ k ∧ k < hi) (.slice H6 j7.length H6c) j7) := ⟨by rw [hlo, hhi]; exact R_new hR6 (below_step HB19.out Y6.2.2).size⟩
        have HLO : Aside0 (w19.heap.size ≤ lo) := ⟨by rw [hlo]; exact Y6.2.2.size⟩
        have HHE : Aside0 (hi = wq7.heap.size) := ⟨hhi⟩
        have HOW : Aside0 (gH < lo ∨ hi ≤ gH) := ⟨.inl (by rw [hlo]; exact blk_lt HX.out)⟩
        clear hR5 hR6 hlo hhi
        have HXc := mz (blk_below HX.out hb)
        clear hb
        refine' tF 5 F ?_
        refine' tF 6 F ?_
        refine' tF 7 F ?_
        have HHI : Aside0 (hi ≤ wq7.heap.size) := ⟨Nat.le_of_eq HHE.out⟩
        have hp := put8 (.int .i64 j1) (.string j2) (.int .i64 j3) (.int .i64 j4) (.bool j5) (.slice H5 j6.length H5c) (.slice H6 j7.length H6c) (.bool j8) Y7.2.2 HGn.out HXc.out
        have hlt : gC < w19.heap.size ∧ gE < w19.heap.size := ⟨blk_lt KC_19.out, blk_lt KE_19.out⟩
        obtain ⟨u0, u1, u2, u3, u4, u5, u6, u7⟩ := cells8 HXc.out
        obtain ⟨z0, z1, z2, z3, z4, z5, z6, z7⟩ := froz8 HXc.out
        refine tS 9 ⟨blk_kp Y7.1 hp.2.2 (by have := HGn.out; omega), blk_kp Y7.2.1 hp.2.2 (by have := HGn.out; omega), hp.2.1⟩ ?_
        intro Y8
        clear u0 u1 u2 u3 u4 u5 u6 u7 z0 z1 z2 z3 z4 z5 z6 z7
        refine' tF 10 F ?_
        refine wpAnyH_done (by kernel_rfl) ?_ _
        have q5 := R_off RW5.out hp.2.2 HOW.out
        have q6 := R_off RW6.out hp.2.2 HOW.out
        have hsz := hp.2.2.1
        have hhi := HHI.out
        go_wp2_with fail
        go_meet
        case rel => exact ⟨gH, H5, H5c, H6, H6c, rfl, rfl, ⟨hp.1⟩, ⟨R_wide q5 HLO.out (Nat.le_trans hhi hsz)⟩, ⟨R_wide q6 HLO.out (Nat.le_trans hhi hsz)⟩, ⟨Y8.2.2⟩, HGn⟩
      ·intro gH hg wb9 hbox hb
       refine ⟨⟨blk_below Y1.1 hb, blk_below Y1.2.1 hb, below_step Y1.2.2 hb⟩, ?_⟩
       intro a' ha'
       (try simp only [Act.put, List.getElem_toArray, List.getElem_cons_succ, List.getElem_cons_zero, List.setIfInBounds_toArray, List.set_cons_zero, List.set_cons_succ] at ha')
       subst ha'
       intro Y9
       have RS5b := mz (Kd.R_below RS5.out hb)
       have RS6b := mz (Kd.R_below RS6.out hb)
       have HX := mz hbox
       have HGn : Aside0 (w19.heap.size ≤ gH) := ⟨by rw [hg]; exact Y1.2.2.size⟩
       clear hg hbox hb
       refine tC 3 (laws_toEntry.calls K4 e0 e1 A1 c1 op e0 e1 (opOf op) _ (Kd.C_below U1.out (below_step HB19.out Y9.2.2)) E1.out HK4.out) ?_
       rintro e wq10 ⟨vo, rfl, hRo, hb⟩
       refine ⟨_, rfl, ⟨blk_below Y9.1 hb, blk_below Y9.2.1 hb, below_step Y9.2.2 hb⟩, ?_⟩
       intro a' ha'
       (try simp only [Act.put, List.getElem_toArray, List.getElem_cons_succ, List.getElem_cons_zero, List.setIfInBounds_toArray, List.set_cons_zero, List.set_cons_succ] at ha')
       subst ha'
       intro Y10
       have RS5bc := mz (Kd.R_below RS5b.out hb)
       have RS6bc := mz (Kd.R_below RS6b.out hb)
       obtain ⟨O, Oc, eo⟩ := Kd.R_slice hRo
       subst eo
       have RO := mz hRo
       clear hRo
       have HXc := mz (blk_below HX.out hb)
       clear hb
       refine tC 4 (impl_HearEntry.calls i t v q b S5 S5c (opOf s5) S6 S6c (opOf s6) d e0 e1 O Oc (opOf op) j1 j2 j3 j4 j5 j6 j7 j8 j9 _ (Kd.R_reads' RS5bc.out).2.2 (Kd.R_reads' RS5bc.out).2.1 (Kd.R_reads' RS6bc.out).2.2 (Kd.R_reads' RS6bc.out).2.1 (Kd.R_reads' RO.out).2.2 (Kd.R_reads' RO.out).2.1 HK6.out) ?_
       rintro e wq11 ⟨v5, v6, rfl, hR5, hR6, hb⟩
       refine ⟨_, rfl, ⟨blk_below Y10.1 hb, blk_below Y10.2.1 hb, below_step Y10.2.2 hb⟩, ?_⟩
       intro a' ha'
       (try simp only [Act.put, List.getElem_toArray, List.getElem_cons_succ, List.getElem_cons_zero, List.setIfInBounds_toArray, List.set_cons_zero, List.set_cons_succ] at ha')
       subst ha'
       intro Y11
       have RS5bcc := mz (Kd.R_below RS5bc.out hb)
       have RS6bcc := mz (Kd.R_below RS6bc.out hb)
       have ROc := mz (Kd.R_below RO.out hb)
       obtain ⟨H5, H5c, eo⟩ := Kd.R_slice hR5
       subst eo
       obtain ⟨H6, H6c, eo⟩ := Kd.R_slice hR6
       subst eo
       obtain ⟨lo, hlo⟩ : ∃ lo, lo = wq10.heap.size := ⟨_, rfl⟩
       obtain ⟨hi, hhi⟩ : ∃ hi, hi = wq11.heap.size := ⟨_, rfl⟩
       have RW5 : Aside0 (Kd.R k86 86 wq11 w.heap.size (fun k => lo ≤ k ∧ k < hi) (.slice H5 j6.length H5c) j6) := ⟨by rw [hlo, hhi]; exact R_new hR5 (below_step HB19.out Y10.2.2).size⟩
       have RW6 : Aside0 (Kd.R k86 86 wq11 w.heap.size (fun k => lo ≤ k ∧ k < hi) (.slice H6 j7.length H6c) j7) := ⟨by rw [hlo, hhi]; exact R_new hR6 (below_step HB19.out Y10.2.2).size⟩
       have HLO : Aside0 (w19.heap.size ≤ lo) := ⟨by rw [hlo]; exact Y10.2.2.size⟩
       have HHE : Aside0 (hi = wq11.heap.size) := ⟨hhi⟩
       have HOW : Aside0 (gH < lo ∨ hi ≤ gH) := ⟨.inl (by rw [hlo]; exact blk_lt HXc.out)⟩
       clear hR5 hR6 hlo hhi
       have HXcc := mz (blk_below HXc.out hb)
       clear hb
       refine' tF 5 F ?_
       refine' tF 6 F ?_
       refine' tF 7 F ?_
       have HHI : Aside0 (hi ≤ wq11.heap.size) := ⟨Nat.le_of_eq HHE.out⟩
       have hp := put8 (.int .i64 j1) (.string j2) (.int .i64 j3) (.int .i64 j4) (.bool j5) (.slice H5 j6.length H5c) (.slice H6 j7.length H6c) (.bool j8) Y11.2.2 HGn.out HXcc.out
       have hlt : gC < w19.heap.size ∧ gE < w19.heap.size := ⟨blk_lt KC_19.out, blk_lt KE_19.out⟩
       obtain ⟨u0, u1, u2, u3, u4, u5, u6, u7⟩ := cells8 HXcc.out
       obtain ⟨z0, z1, z2, z3, z4, z5, z6, z7⟩ := froz8 HXcc.out
       refine tS 9 ⟨blk_kp Y11.1 hp.2.2 (by have := HGn.out; omega), blk_kp Y11.2.1 hp.2.2 (by have := HGn.out; omega), hp.2.1⟩ ?_
       intro Y12
       clear u0 u1 u2 u3 u4 u5 u6 u7 z0 z1 z2 z3 z4 z5 z6 z7
       refine' tF 10 F ?_
       refine wpAnyH_done (by kernel_rfl) ?_ _
       have q5 := R_off RW5.out hp.2.2 HOW.out
       have q6 := R_off RW6.out hp.2.2 HOW.out
       have hsz := hp.2.2.1
       have hhi := HHI.out
       go_wp2_with fail
       go_meet
       case rel => exact ⟨gH, H5, H5c, H6, H6c, rfl, rfl, ⟨hp.1⟩, ⟨R_wide q5 HLO.out (Nat.le_trans hhi hsz)⟩, ⟨R_wide q6 HLO.out (Nat.le_trans hhi hsz)⟩, ⟨Y12.2.2⟩, HGn⟩
     ·intro gH hg wb13 hbox hb
      refine ⟨⟨blk_below Y.1 hb, blk_below Y.2.1 hb, below_step Y.2.2 hb⟩, ?_⟩
      intro a' ha'
      (try simp only [Act.put, List.getElem_toArray, List.getElem_cons_succ, List.getElem_cons_zero, List.setIfInBounds_toArray, List.set_cons_zero, List.set_cons_succ] at ha')
      subst ha'
      intro Y13
      have HX := mz hbox
      have HGn : Aside0 (w19.heap.size ≤ gH) := ⟨by rw [hg]; exact Y.2.2.size⟩
      clear hg hbox hb
      refine tC 1 (laws_toClient.calls K3 i t v q b A5 c5 s5 A6 c6 s6 d i t v q b (opOf s5) (opOf s6) d _ (Kd.C_below U5.out (below_step HB19.out Y13.2.2)) E5.out (Kd.C_below U6.out (below_step HB19.out Y13.2.2)) E6.out HK3.out) ?_
      rintro e wq14 ⟨v5, v6, rfl, hR5, hR6, hb⟩
      refine ⟨_, rfl, ⟨blk_below Y13.1 hb, blk_below Y13.2.1 hb, below_step Y13.2.2 hb⟩, ?_⟩
      intro a' ha'
      (try simp only [Act.put, List.getElem_toArray, List.getElem_cons_succ, List.getElem_cons_zero, List.setIfInBounds_toArray, List.set_cons_zero, List.set_cons_succ] at ha')
      subst ha'
      intro Y14
      obtain ⟨S5, S5c, eo⟩ := Kd.R_slice hR5
      subst eo
      obtain ⟨S6, S6c, eo⟩ := Kd.R_slice hR6
      subst eo
      have RS5 := mz hR5
      have RS6 := mz hR6
      clear hR5 hR6
      have HXc := mz (blk_below HX.out hb)
      clear hb
      refine tC 3 (laws_toEntry.calls K4 e0 e1 A1 c1 op e0 e1 (opOf op) _ (Kd.C_below U1.out (below_step HB19.out Y14.2.2)) E1.out HK4.out) ?_
      rintro e wq15 ⟨vo, rfl, hRo, hb⟩
      refine ⟨_, rfl, ⟨blk_below Y14.1 hb, blk_below Y14.2.1 hb, below_step Y14.2.2 hb⟩, ?_⟩
      intro a' ha'
      (try simp only [Act.put, List.getElem_toArray, List.getElem_cons_succ, List.getElem_cons_zero, List.setIfInBounds_toArray, List.set_cons_zero, List.set_cons_succ] at ha')
      subst ha'
      intro Y15
      have RS5c := mz (Kd.R_below RS5.out hb)
      have RS6c := mz (Kd.R_below RS6.out hb)
      obtain ⟨O, Oc, eo⟩ := Kd.R_slice hRo
      subst eo
      have RO := mz hRo
      clear hRo
      have HXcc := mz (blk_below HXc.out hb)
      clear hb
      refine tC 4 (impl_HearEntry.calls i t v q b S5 S5c (opOf s5) S6 S6c (opOf s6) d e0 e1 O Oc (opOf op) j1 j2 j3 j4 j5 j6 j7 j8 j9 _ (Kd.R_reads' RS5c.out).2.2 (Kd.R_reads' RS5c.out).2.1 (Kd.R_reads' RS6c.out).2.2 (Kd.R_reads' RS6c.out).2.1 (Kd.R_reads' RO.out).2.2 (Kd.R_reads' RO.out).2.1 HK6.out) ?_
      rintro e wq16 ⟨v5, v6, rfl, hR5, hR6, hb⟩
      refine ⟨_, rfl, ⟨blk_below Y15.1 hb, blk_below Y15.2.1 hb, below_step Y15.2.2 hb⟩, ?_⟩
      intro a' ha'
      (try simp only [Act.put, List.getElem_toArray, List.getElem_cons_succ, List.getElem_cons_zero, List.setIfInBounds_toArray, List.set_cons_zero, List.set_cons_succ] at ha')
      subst ha'
      intro Y16
      have RS5cc := mz (Kd.R_below RS5c.out hb)
      have RS6cc := mz (Kd.R_below RS6c.out hb)
      have ROc := mz (Kd.R_below RO.out hb)
      obtain ⟨H5, H5c, eo⟩ := Kd.R_slice hR5
      subst eo
      obtain ⟨H6, H6c, eo⟩ := Kd.R_slice hR6
      subst eo
      obtain ⟨lo, hlo⟩ : ∃ lo, lo = wq15.heap.size := ⟨_, rfl⟩
      obtain ⟨hi, hhi⟩ : ∃ hi, hi = wq16.heap.size := ⟨_, rfl⟩
      have RW5 : Aside0 (Kd.R k86 86 wq16 w.heap.size (fun k => lo ≤ k ∧ k < hi) (.slice H5 j6.length H5c) j6) := ⟨by rw [hlo, hhi]; exact R_new hR5 (below_step HB19.out Y15.2.2).size⟩
      have RW6 : Aside0 (Kd.R k86 86 wq16 w.heap.size (fun k => lo ≤ k ∧ k < hi) (.slice H6 j7.length H6c) j7) := ⟨by rw [hlo, hhi]; exact R_new hR6 (below_step HB19.out Y15.2.2).size⟩
      have HLO : Aside0 (w19.heap.size ≤ lo) := ⟨by rw [hlo]; exact Y15.2.2.size⟩
      have HHE : Aside0 (hi = wq16.heap.size) := ⟨hhi⟩
      have HOW : Aside0 (gH < lo ∨ hi ≤ gH) := ⟨.inl (by rw [hlo]; exact blk_lt HXcc.out)⟩
      clear hR5 hR6 hlo hhi
      have HXccc := mz (blk_below HXcc.out hb)
      clear hb
      refine' tF 5 F ?_
      refine' tF 6 F ?_
      refine' tF 7 F ?_
      have HHI : Aside0 (hi ≤ wq16.heap.size) := ⟨Nat.le_of_eq HHE.out⟩
      have hp := put8 (.int .i64 j1) (.string j2) (.int .i64 j3) (.int .i64 j4) (.bool j5) (.slice H5 j6.length H5c) (.slice H6 j7.length H6c) (.bool j8) Y16.2.2 HGn.out HXccc.out
      have hlt : gC < w19.heap.size ∧ gE < w19.heap.size := ⟨blk_lt KC_19.out, blk_lt KE_19.out⟩
      obtain ⟨u0, u1, u2, u3, u4, u5, u6, u7⟩ := cells8 HXccc.out
      obtain ⟨z0, z1, z2, z3, z4, z5, z6, z7⟩ := froz8 HXccc.out
      refine tS 9 ⟨blk_kp Y16.1 hp.2.2 (by have := HGn.out; omega), blk_kp Y16.2.1 hp.2.2 (by have := HGn.out; omega), hp.2.1⟩ ?_
      intro Y17
      clear u0 u1 u2 u3 u4 u5 u6 u7 z0 z1 z2 z3 z4 z5 z6 z7
      refine' tF 10 F ?_
      refine wpAnyH_done (by kernel_rfl) ?_ _
      have q5 := R_off RW5.out hp.2.2 HOW.out
      have q6 := R_off RW6.out hp.2.2 HOW.out
      have hsz := hp.2.2.1
      have hhi := HHI.out
      go_wp2_with fail
      go_meet
      case rel => exact ⟨gH, H5, H5c, H6, H6c, rfl, rfl, ⟨hp.1⟩, ⟨R_wide q5 HLO.out (Nat.le_trans hhi hsz)⟩, ⟨R_wide q6 HLO.out (Nat.le_trans hhi hsz)⟩, ⟨Y17.2.2⟩, HGn⟩
    case rest =>
     obtain ⟨gH, H5, H5c, H6, H6c, rfl, rfl, hbx, hr5, hr6, hbl, hge⟩ := hcut
     obtain ⟨w20, hw⟩ : ∃ x : World, x = wc := ⟨_, rfl⟩
     subst hw
     have HB20 := mz (below_step HB19.out hbl.out)
     have Z20 := mz (hbl.out).size
     have KC_20 := mz (blk_below KC_19.out hbl.out)
     have KE_20 := mz (blk_below KE_19.out hbl.out)
     have KW_20 := mz (blk_below KW_19.out hbl.out)
     have KX_20 := mz (blk_below KX_19.out hbl.out)
     have KO_20 := mz (blk_below KO_19.out hbl.out)
     have KG_20 := mz (blk_below KG_19.out hbl.out)
     have RW5_20 := mz (Kd.R_below RW5_19.out hbl.out)
     have RW6_20 := mz (Kd.R_below RW6_19.out hbl.out)
     have RM5_20 := mz (Kd.R_below RM5_19.out hbl.out)
     have RM6_20 := mz (Kd.R_below RM6_19.out hbl.out)
     have KH := mz hbx.out
     have HGH := mz hge.out
     have HLH : Aside0 (gH < w20.heap.size) := ⟨blk_lt hbx.out⟩
     have RH5 := mz hr5.out
     have RH6 := mz hr6.out
     clear hbx hr5 hr6 hbl hge
     obtain ⟨H0, H1, H2, H3, H4, H5, H6, H7⟩ := cells8 KH.out
     obtain ⟨W0, W1, W2, W3, W4, W5, W6, W7⟩ := cells8 KW_20.out
     go_wp2_with fail
     clear H0 H1 H2 H3 H4 H5 H6 H7
     clear W0 W1 W2 W3 W4 W5 W6 W7
     refine (laws_eqClient.calls j1 j2 j3 j4 j5 H5 H5c j6 H6 H6c j7 j8 j1 j2 j3 j4 j5 W5 W5c j6 W6 W6c j7 j8 true _ (Kd.R_reads' RH5.out).2.2 (Kd.R_reads' RH5.out).2.1 (Kd.R_reads' RH6.out).2.2 (Kd.R_reads' RH6.out).2.1 (Kd.R_reads' RW5_20.out).2.2 (Kd.R_reads' RW5_20.out).2.1 (Kd.R_reads' RW6_20.out).2.2 (Kd.R_reads' RW6_20.out).2.1 HE1.out).mono ?_
     rintro e w21 ⟨rfl, hb⟩
     have HB21 := mz (below_step HB20.out hb)
     have Z21 := mz (hb).size
     have KC_21 := mz (blk_below KC_20.out hb)
     have KE_21 := mz (blk_below KE_20.out hb)
     have KW_21 := mz (blk_below KW_20.out hb)
     have KX_21 := mz (blk_below KX_20.out hb)
     have KO_21 := mz (blk_below KO_20.out hb)
     have KG_21 := mz (blk_below KG_20.out hb)
     have KH_21 := mz (blk_below KH.out hb)
     have RW5_21 := mz (Kd.R_below RW5_20.out hb)
     have RW6_21 := mz (Kd.R_below RW6_20.out hb)
     have RM5_21 := mz (Kd.R_below RM5_20.out hb)
     have RM6_21 := mz (Kd.R_below RM6_20.out hb)
     have RH5_21 := mz (Kd.R_below RH5.out hb)
     have RH6_21 := mz (Kd.R_below RH6.out hb)
     clear hb
     obtain ⟨G0, G1, G2, G3, G4, G5, G6, G7⟩ := cells8 KG_21.out
     go_wp2_with fail
     clear G0 G1 G2 G3 G4 G5 G6 G7
     refine (heldC_at j1 j2 j3 j4 j5 G5 G5c j6 G6 G6c j7 j8 _ _ _ _ RM5_21.out RM6_21.out K11 m3 HK11.out).mono ?_
     rintro e w22 ⟨rfl, hb⟩
     have HB22 := mz (below_step HB21.out hb)
     have Z22 := mz (hb).size
     have KC_22 := mz (blk_below KC_21.out hb)
     have KE_22 := mz (blk_below KE_21.out hb)
     have KW_22 := mz (blk_below KW_21.out hb)
     have KX_22 := mz (blk_below KX_21.out hb)
     have KO_22 := mz (blk_below KO_21.out hb)
     have KG_22 := mz (blk_below KG_21.out hb)
     have KH_22 := mz (blk_below KH_21.out hb)
     have RW5_22 := mz (Kd.R_below RW5_21.out hb)
     have RW6_22 := mz (Kd.R_below RW6_21.out hb)
     have RM5_22 := mz (Kd.R_below RM5_21.out hb)
     have RM6_22 := mz (Kd.R_below RM6_21.out hb)
     have RH5_22 := mz (Kd.R_below RH5_21.out hb)
     have RH6_22 := mz (Kd.R_below RH6_21.out hb)
     clear hb
     go_wp2_with fail
     go_ret
     exact ⟨rfl, HB22.out⟩
open Classical in
noncomputable def laws_FnExactHearEntry.f (a0_0 : Int) (a0_1 : ByteArray) (a0_2 : Int) (a0_3 : Int) (a0_4 : Bool) (l0_5 : List (S78)) (l0_6 : List (S78)) (a0_7 : Bool) (a1_0 : Int) (a1_1 : Int) (l1_2 : List (S78)) : Option (Bool) := if BigC ⟨a0_0, a0_1, a0_2, a0_3, a0_4, l0_5, l0_6, a0_7⟩ ∧ l1_2.length ≤ maxLen ∧ ∀ p ∈ l1_2, p.f1.size ≤ maxLen ∧ p.f2.size ≤ maxLen then some true else none
theorem laws_FnExactHearEntry.calls (a0_0 : Int) (a0_1 : ByteArray) (a0_2 : Int) (a0_3 : Int) (a0_4 : Bool) (A0_5 : Option Addr) (c0_5 : Nat) (l0_5 : List (S78)) (A0_6 : Option Addr) (c0_6 : Nat) (l0_6 : List (S78)) (a0_7 : Bool) (a1_0 : Int) (a1_1 : Int) (A1_2 : Option Addr) (c1_2 : Nat) (l1_2 : List (S78)) (r : Bool) (w : World) (hr0_5 : Kd.C k78 w A0_5 l0_5.length l0_5) (hc0_5 : l0_5.length ≤ c0_5) (hr0_6 : Kd.C k78 w A0_6 l0_6.length l0_6) (hc0_6 : l0_6.length ≤ c0_6) (hr1_2 : Kd.C k78 w A1_2 l1_2.length l1_2) (hc1_2 : l1_2.length ≤ c1_2) (h : laws_FnExactHearEntry.f a0_0 a0_1 a0_2 a0_3 a0_4 l0_5 l0_6 a0_7 a1_0 a1_1 l1_2 = some r) :
  Calls Try.prog 5 #[.agg #[.int .i64 a0_0, .string a0_1, .int .i64 a0_2, .int .i64 a0_3, .bool a0_4, .slice A0_5 l0_5.length c0_5, .slice A0_6 l0_6.length c0_6, .bool a0_7], .agg #[.int .i64 a1_0, .int .i64 a1_1, .slice A1_2 l1_2.length c1_2]] w fun e w' => e = .returned (.bool r) ∧ Below w.heap.size w w' := by
 unfold laws_FnExactHearEntry.f at h
 split at h
 ·rename_i hs
  obtain rfl := Option.some.inj h
  exact hl_walk a0_0 a0_1 a0_2 a0_3 a0_4 A0_5 c0_5 l0_5 A0_6 c0_6 l0_6 a0_7 a1_0 a1_1 A1_2 c1_2 l1_2 w hr0_5 hc0_5 hr0_6 hc0_6 hr1_2 hc1_2 hs.1 hs.2.1 hs.2.2
 ·exact absurd h (by simp)
def Opens {α : Type} (P : Program) (t : TypeId) (d : Kd α) (B : α → Prop) : Prop :=
 ∀ (H : Type) (enc : TypeId × Value → H) (W : World) (fuel : Nat) (cs : List Value) (x : DataW H × List MemPlace),
  DataW.trod enc P W 0 (fun _ => true) true fuel t cs = some x → ∃ y : α, d.K W y cs ∧ B y

theorem opens_int {P : Program} {t : TypeId} {k : IntKind} (ht : P.underlying t = some (.int k)) : Opens P t (Kd.int k) (fun n => (Lit.int k n).wf = true) := by
 intro H enc W fuel cs x h
 obtain ⟨n, rfl, _, hw⟩ := DataW.trod_int ht h
 exact ⟨n, rfl, hw⟩
theorem opens_bool {P : Program} {t : TypeId} (ht : P.underlying t = some .bool) : Opens P t Kd.bool (fun _ => True) := by
 intro H enc W fuel cs x h
 obtain ⟨b, rfl, _⟩ := DataW.trod_bool ht h
 exact ⟨b, rfl, trivial⟩
theorem opens_string {P : Program} {t : TypeId} (ht : P.underlying t = some .string) : Opens P t Kd.string (fun s => s.size ≤ maxLen) := by
 intro H enc W fuel cs x h
 obtain ⟨s, rfl, _, hs⟩ := DataW.trod_string ht h
 exact ⟨s, rfl, hs⟩

theorem list_of {α : Type} (Q : Nat → α → Prop) (n : Nat) (h : ∀ i, i < n → ∃ y, Q i y) : ∃ ys : List α, ys.length = n ∧ ∀ i y, ys[i]? = some y → Q i y := by
 induction n with
 | zero => exact ⟨[], rfl, fun i y hy => by simp at hy⟩
 | succ n ih =>
  obtain ⟨ys, hl, hq⟩ := ih (fun i hi => h i (by omega))
  obtain ⟨y, hy⟩ := h n (by omega)
  refine ⟨ys ++ [y], by simp [hl], fun i z hz => ?_⟩
  rcases Nat.lt_or_ge i ys.length with hi | hi
  ·rw [List.getElem?_append_left hi] at hz
   exact hq i z hz
  ·have hi' : i = n := by
    have := (List.getElem?_eq_some_iff.1 hz).1
    simp at this
    omega
   subst hi'
   rw [List.getElem?_append_right hi, hl, Nat.sub_self] at hz
   have : y = z := by simpa using hz
   subst this
   exact hy

theorem opens_slice {α : Type} {P : Program} {t e : TypeId} {d : Kd α} {B : α → Prop} (ht : P.underlying t = some (.slice e)) (hc : P.cellsOf e = d.sz) (hd : Opens P e d B) :
  Opens P t (Kd.slice e d) (fun l => l.length ≤ maxLen ∧ ∀ x ∈ l, B x) := by
 intro H enc W fuel cs x h
 rcases DataW.trod_slice ht h with ⟨rfl, _⟩ | ⟨a, len, cap, elems, rest, n, _, rfl, _, _, hl, hm, hlen, hel, _, _⟩
 ·exact ⟨[], ⟨none, 0, rfl, Nat.le_refl _, rfl, by simp, fun h0 => absurd h0 (by simp)⟩, by simp, by simp⟩
 ·have each : ∀ i, i < len → ∃ y : α, (∃ c, W.cells? 0 (a.add (i * P.cellsOf e)) (P.cellsOf e) = some c ∧ d.K W y c) ∧ B y := by
   intro i hi
   have h1 := hel i hi
   rw [List.getElem?_eq_getElem (by omega), Option.bind_eq_some_iff] at h1
   obtain ⟨c, h2, h3⟩ := h1
   obtain ⟨y, h4, h5⟩ := hd H enc W n c _ h3
   exact ⟨y, ⟨c, h2, h4⟩, h5⟩
  obtain ⟨ys, hys, hq⟩ := list_of _ len each
  refine ⟨ys, ⟨some a, cap, by rw [hys], by rw [hys]; exact hl, rfl, ?_, fun _ => ⟨a, rfl, fun j p hj => ?_⟩⟩, by rw [hys]; exact Nat.le_trans hl hm, fun z hz => ?_⟩
  ·rw [hys]
   have := Nat.le_trans hl hm
   simp only [maxLen] at this
   exact this
  ·obtain ⟨⟨c, h2, h3⟩, _⟩ := hq j p hj
   refine ⟨c, d.K_len h3, h3, fun i u hu => ?_⟩
   have hi : i < P.cellsOf e := by rw [hc, ← d.K_len h3]; exact (List.getElem?_eq_some_iff.1 hu).1
   have := (World.cells?_some h2).2.2 i hi
   rw [Addr.add_add, hc] at this
   rw [this, hu]
  ·obtain ⟨j, hj, rfl⟩ := List.getElem_of_mem hz
   exact (hq j _ (List.getElem?_eq_getElem hj)).2

theorem split_at (cs : List Value) (a n b : Nat) (h : b = a + n) : cs.drop a = (cs.drop a).take n ++ cs.drop b := by
 subst h
 rw [← List.drop_drop, List.take_append_drop]
section
attribute [local go_sem] max2_int min2_int max_two min_two max_three min_three max_four min_four
def B78 (x : S78) : Prop := (Lit.int .i64 x.f0).wf = true ∧ x.f1.size ≤ maxLen ∧ x.f2.size ≤ maxLen
set_option maxRecDepth 10000 in
theorem opens_S78 : Opens Try.prog 78 k78 B78 := by
 intro H enc W fuel cs x h
 obtain ⟨xs, n, rfl, rfl, hl, hx, hf⟩ := DataW.trod_struct Try.underlying78 h
 have hl' : cs.length = 3 := hl.trans (by kernel_rfl)
 have hx' : xs.length = 3 := hx
 have h0 := hf 0 _ rfl
 rw [List.getElem?_eq_getElem (show 0 < xs.length by omega)] at h0
 obtain ⟨v0, K0, B0_⟩ := (opens_int Try.underlying3) H enc W n _ _ h0
 replace K0 : (Kd.int .i64).K W v0 ((cs.drop 0).take 1) := K0
 have h1 := hf 1 _ rfl
 rw [List.getElem?_eq_getElem (show 1 < xs.length by omega)] at h1
 obtain ⟨v1, K1, B1_⟩ := (opens_string Try.underlying9) H enc W n _ _ h1
 replace K1 : Kd.string.K W v1 ((cs.drop 1).take 1) := K1
 have h2 := hf 2 _ rfl
 rw [List.getElem?_eq_getElem (show 2 < xs.length by omega)] at h2
 obtain ⟨v2, K2, B2_⟩ := (opens_string Try.underlying9) H enc W n _ _ h2
 replace K2 : Kd.string.K W v2 ((cs.drop 2).take 1) := K2
 rw [List.take_of_length_le (by rw [List.length_drop, hl']; decide)] at K2
 have hK : k78.K W ⟨v0, v1, v2⟩ (cs.drop 0) := ⟨_, _, split_at cs 0 1 1 rfl, K0, ⟨_, _, split_at cs 1 1 2 rfl, K1, K2⟩⟩
 rw [List.drop_zero] at hK
 exact ⟨_, hK, ⟨B0_, B1_, B2_⟩⟩
def B42 (x : S42) : Prop := (Lit.int .i64 x.f0).wf = true ∧ x.f1.size ≤ maxLen ∧ (Lit.int .i64 x.f2).wf = true ∧ (Lit.int .i64 x.f3).wf = true ∧ True ∧ (x.f5.length ≤ maxLen ∧ ∀ y ∈ x.f5, B78 y) ∧ (x.f6.length ≤ maxLen ∧ ∀ y ∈ x.f6, B78 y) ∧ True
set_option maxRecDepth 10000 in
theorem opens_S42 : Opens Try.prog 42 k42 B42 := by
 intro H enc W fuel cs x h
 obtain ⟨xs, n, rfl, rfl, hl, hx, hf⟩ := DataW.trod_struct Try.underlying42 h
 have hl' : cs.length = 8 := hl.trans (by kernel_rfl)
 have hx' : xs.length = 8 := hx
 have h0 := hf 0 _ rfl
 rw [List.getElem?_eq_getElem (show 0 < xs.length by omega)] at h0
 obtain ⟨v0, K0, B0_⟩ := (opens_int Try.underlying3) H enc W n _ _ h0
 replace K0 : (Kd.int .i64).K W v0 ((cs.drop 0).take 1) := K0
 have h1 := hf 1 _ rfl
 rw [List.getElem?_eq_getElem (show 1 < xs.length by omega)] at h1
 obtain ⟨v1, K1, B1_⟩ := (opens_string Try.underlying9) H enc W n _ _ h1
 replace K1 : Kd.string.K W v1 ((cs.drop 1).take 1) := K1
 have h2 := hf 2 _ rfl
 rw [List.getElem?_eq_getElem (show 2 < xs.length by omega)] at h2
 obtain ⟨v2, K2, B2_⟩ := (opens_int Try.underlying3) H enc W n _ _ h2
 replace K2 : (Kd.int .i64).K W v2 ((cs.drop 2).take 1) := K2
 have h3 := hf 3 _ rfl
 rw [List.getElem?_eq_getElem (show 3 < xs.length by omega)] at h3
 obtain ⟨v3, K3, B3_⟩ := (opens_int Try.underlying3) H enc W n _ _ h3
 replace K3 : (Kd.int .i64).K W v3 ((cs.drop 3).take 1) := K3
 have h4 := hf 4 _ rfl
 rw [List.getElem?_eq_getElem (show 4 < xs.length by omega)] at h4
 obtain ⟨v4, K4, B4_⟩ := (opens_bool Try.underlying4) H enc W n _ _ h4
 replace K4 : Kd.bool.K W v4 ((cs.drop 4).take 1) := K4
 have h5 := hf 5 _ rfl
 rw [List.getElem?_eq_getElem (show 5 < xs.length by omega)] at h5
 obtain ⟨v5, K5, B5_⟩ := (opens_slice Try.underlying25 (by kernel_rfl) opens_S78) H enc W n _ _ h5
 replace K5 : (Kd.slice 78 k78).K W v5 ((cs.drop 5).take 1) := K5
 have h6 := hf 6 _ rfl
 rw [List.getElem?_eq_getElem (show 6 < xs.length by omega)] at h6
 obtain ⟨v6, K6, B6_⟩ := (opens_slice Try.underlying25 (by kernel_rfl) opens_S78) H enc W n _ _ h6
 replace K6 : (Kd.slice 78 k78).K W v6 ((cs.drop 6).take 1) := K6
 have h7 := hf 7 _ rfl
 rw [List.getElem?_eq_getElem (show 7 < xs.length by omega)] at h7
 obtain ⟨v7, K7, B7_⟩ := (opens_bool Try.underlying4) H enc W n _ _ h7
 replace K7 : Kd.bool.K W v7 ((cs.drop 7).take 1) := K7
 rw [List.take_of_length_le (by rw [List.length_drop, hl']; decide)] at K7
 have hK : k42.K W ⟨v0, v1, v2, v3, v4, v5, v6, v7⟩ (cs.drop 0) := ⟨_, _, split_at cs 0 1 1 rfl, K0, ⟨_, _, split_at cs 1 1 2 rfl, K1, ⟨_, _, split_at cs 2 1 3 rfl, K2, ⟨_, _, split_at cs 3 1 4 rfl, K3, ⟨_, _, split_at cs 4 1 5 rfl, K4, ⟨_, _, split_at cs 5 1 6 rfl, K5, ⟨_, _, split_at cs 6 1 7 rfl, K6, K7⟩⟩⟩⟩⟩⟩⟩
 rw [List.drop_zero] at hK
 exact ⟨_, hK, ⟨B0_, B1_, B2_, B3_, B4_, B5_, B6_, B7_⟩⟩
def B53 (x : S53) : Prop := (Lit.int .i64 x.f0).wf = true ∧ (Lit.int .i64 x.f1).wf = true ∧ (x.f2.length ≤ maxLen ∧ ∀ y ∈ x.f2, B78 y)
set_option maxRecDepth 10000 in
theorem opens_S53 : Opens Try.prog 53 k53 B53 := by
 intro H enc W fuel cs x h
 obtain ⟨xs, n, rfl, rfl, hl, hx, hf⟩ := DataW.trod_struct Try.underlying53 h
 have hl' : cs.length = 3 := hl.trans (by kernel_rfl)
 have hx' : xs.length = 3 := hx
 have h0 := hf 0 _ rfl
 rw [List.getElem?_eq_getElem (show 0 < xs.length by omega)] at h0
 obtain ⟨v0, K0, B0_⟩ := (opens_int Try.underlying3) H enc W n _ _ h0
 replace K0 : (Kd.int .i64).K W v0 ((cs.drop 0).take 1) := K0
 have h1 := hf 1 _ rfl
 rw [List.getElem?_eq_getElem (show 1 < xs.length by omega)] at h1
 obtain ⟨v1, K1, B1_⟩ := (opens_int Try.underlying3) H enc W n _ _ h1
 replace K1 : (Kd.int .i64).K W v1 ((cs.drop 1).take 1) := K1
 have h2 := hf 2 _ rfl
 rw [List.getElem?_eq_getElem (show 2 < xs.length by omega)] at h2
 obtain ⟨v2, K2, B2_⟩ := (opens_slice Try.underlying25 (by kernel_rfl) opens_S78) H enc W n _ _ h2
 replace K2 : (Kd.slice 78 k78).K W v2 ((cs.drop 2).take 1) := K2
 rw [List.take_of_length_le (by rw [List.length_drop, hl']; decide)] at K2
 have hK : k53.K W ⟨v0, v1, v2⟩ (cs.drop 0) := ⟨_, _, split_at cs 0 1 1 rfl, K0, ⟨_, _, split_at cs 1 1 2 rfl, K1, K2⟩⟩
 rw [List.drop_zero] at hK
 exact ⟨_, hK, ⟨B0_, B1_, B2_⟩⟩
end
section
attribute [local go_sem] max2_int min2_int max_two min_two max_three min_three max_four min_four
def PureFnExactHearEntry : Prop := ∀ (x0 : S42), ∀ (x1 : S53), B42 x0 → B53 x1 → laws_FnExactHearEntry.f x0.f0 x0.f1 x0.f2 x0.f3 x0.f4 x0.f5 x0.f6 x0.f7 x1.f0 x1.f1 x1.f2 = some true
end
end Go.Proofs.Ytgccoekganghhaa.X
namespace Go.Proofs.Ytgccoekganghhaa.Pure
open Go.RowKit Go.Proofs.Ytgccoekganghhaa.X Go.Proofs.YtgccoekganghhaaW.PrintWords Go.Proofs.YtgccoekganghhaaW.PrintLast
theorem FnExactHearEntry : PureFnExactHearEntry := by
 rintro x e ⟨_, h1, _, _, _, ⟨h5, h5'⟩, ⟨h6, h6'⟩, _⟩ ⟨_, _, hl, hl'⟩
 unfold laws_FnExactHearEntry.f
 rw [if_pos ⟨⟨h1, ⟨h5, fun p hp => (h5' p hp).2⟩, h6, fun p hp => (h6' p hp).2⟩, hl, fun p hp => (hl' p hp).2⟩]
end Go.Proofs.Ytgccoekganghhaa.Pure
namespace Go.Proofs.Ytgccoekganghhaa.fnExactHearEntry
open Go.ChangeShapes Go.WideShapes Go.ChangeAt Go.RowKit
open Go.ChangeMaps (open_string shut_string)
open Go.Proofs.YtgccoekganghhaaW.PrintWords Go.Proofs.Ytgccoekganghhaa.X
set_option linter.unusedVariables false
theorem own : ownKnob Try.prog.godebug = none := by kernel_rfl
theorem laidOut : laidOutB Try.prog = true := by kernel_rfl
set_option maxRecDepth 100000 in
theorem lifted (os : Os) (started : os.Started) (H : Type) (enc : TypeId × Value → H) :
  ReturnsInHanded {} Try.checked os 5 .any (Rows.fnExactHearEntrySpec.pre6 enc Try.prog Try.f5 Rows.fnExactHearEntryRow.domain false) (Rows.fnExactHearEntrySpec.post enc Try.prog Try.f5 false true false false) := by
 refine returnsInHanded_of_change_sized (C := Try.checked) own started (by kernel_rfl) Try.func5
  (ChangeSpec.witness6 (enc := enc) (C := Try.checked) false ⟨#[], #[.agg #[.int .i64 0, .string ByteArray.empty, .int .i64 0, .int .i64 0, .bool false, .slice none 0 0, .slice none 0 0, .bool false], .agg #[.int .i64 0, .int .i64 0, .slice none 0 0]], []⟩ 8 (by kernel_rfl) (by kernel_rfl) (by kernel_rfl) (by kernel_rfl)) ?_
 intro W base args ds gs before hval0 hW hcnd hsz0 _
 have hval : ∀ (j : Nat) t v, Try.f5.params[j]? = some t → args[j]? = some v → Value.okWide Try.prog W .any base t v := hval0
 have hW' := hW
 obtain ⟨p, q, hA0, hV, rfl, hfz, hnd⟩ := hW
 have hA : DataW.TrodAll enc Try.prog W 0 (fun _ => true) true Try.f5.params.toList args.toList ds p := hA0
 rw [Try.params5] at hA hval
 obtain ⟨v0, vs0, d0, ds0, p0, q0, hargs, rfl, rfl, h0, r0⟩ := trodAll_cons hA
 obtain ⟨v1, vs1, d1, ds1, p1, q1, rfl, rfl, rfl, h1, r1⟩ := trodAll_cons r0
 obtain ⟨rfl, rfl, rfl⟩ := trodAll_nil r1
 obtain rfl : args = #[v0, v1] := by cases args; simp_all
 obtain ⟨rfl, rfl⟩ := trodVars_none hV
 have k0 := h0
 have lt0 : ∀ x ∈ p0, x.block < W.heap.size := by obtain ⟨m, hm⟩ := k0; exact DataW.trod_lt m _ _ _ hm
 obtain ⟨fuel0, hf0⟩ := h0
 obtain ⟨cs0, rfl, _⟩ := okWide_struct Try.underlying42 (hval 0 42 v0 rfl rfl)
 obtain ⟨x0, K0, b0⟩ := opens_S42 H enc W _ _ _ hf0
 obtain ⟨A0_5, c0_5, A0_6, c0_6, he0, hc0_5, hr0_5, hc0_6, hr0_6⟩ := k42_open K0
 obtain rfl : cs0 = #[.int .i64 x0.f0, .string x0.f1, .int .i64 x0.f2, .int .i64 x0.f3, .bool x0.f4, .slice A0_5 x0.f5.length c0_5, .slice A0_6 x0.f6.length c0_6, .bool x0.f7] := by cases cs0; simp_all [Value.cells]
 have k1 := h1
 have lt1 : ∀ x ∈ p1, x.block < W.heap.size := by obtain ⟨m, hm⟩ := k1; exact DataW.trod_lt m _ _ _ hm
 obtain ⟨fuel1, hf1⟩ := h1
 obtain ⟨cs1, rfl, _⟩ := okWide_struct Try.underlying53 (hval 1 53 v1 rfl rfl)
 obtain ⟨x1, K1, b1⟩ := opens_S53 H enc W _ _ _ hf1
 obtain ⟨A1_2, c1_2, he1, hc1_2, hr1_2⟩ := k53_open K1
 obtain rfl : cs1 = #[.int .i64 x1.f0, .int .i64 x1.f1, .slice A1_2 x1.f2.length c1_2] := by cases cs1; simp_all [Value.cells]
 clear hA0 hval0 hsz0
 have hP : PureFnExactHearEntry := Pure.FnExactHearEntry
 have hk := hP x0 x1 b0 b1
 refine (laws_FnExactHearEntry.calls x0.f0 x0.f1 x0.f2 x0.f3 x0.f4 _ _ x0.f5 _ _ x0.f6 x0.f7 x1.f0 x1.f1 _ _ x1.f2 true W hr0_5 hc0_5 hr0_6 hc0_6 hr1_2 hc1_2 hk).mono fun e W' ⟨he, bel0⟩ => ?_
 have bel : Below W.heap.size W W' := bel0
 subst he
 exact ⟨_, rfl, _, _, _, [], _, [], hW', trodAll_mk1 (shut_bool Try.underlying4 _), (trodAll_cons_mk (Below.trod laidOut (by kernel_rfl) (of_decide_eq_true (by kernel_rfl)) k0 bel lt0) (trodAll_cons_mk (Below.trod laidOut (by kernel_rfl) (of_decide_eq_true (by kernel_rfl)) k1 bel lt1) trodAll_mk0)), rfl, bel.frame _, fun h => by cases h⟩
theorem over : Rows.fnExactHearEntryRow.holds Try.pinned (OpenSpec.ofChange Rows.fnExactHearEntrySpec) :=
 OpenClaim.holds_of_wide 5 Try.f5 rfl rfl rfl rfl rfl rfl rfl ⟨rfl, rfl, rfl, rfl, rfl⟩ rfl rfl rfl rfl rfl (by kernel_rfl) Try.func5 (by kernel_rfl)
  (of_decide_eq_true (by kernel_rfl)) (by unfold Func.isWrapper; first | (rw [if_pos (by decide +kernel)]; kernel_rfl) | (rw [if_neg (by decide +kernel)]; exact ⟨rfl, rfl⟩))
  (fun os started H enc _ => lifted os started H enc)
theorem proved : Rows.FnExactHearEntrySaid := over
#print axioms proved
end Go.Proofs.Ytgccoekganghhaa.fnExactHearEntry
namespace Go.Proofs.Ytgccoekganghhaa
theorem fnExactHearEntry_holds : Rows.FnExactHearEntrySaid := fnExactHearEntry.proved
end Go.Proofs.Ytgccoekganghhaa
