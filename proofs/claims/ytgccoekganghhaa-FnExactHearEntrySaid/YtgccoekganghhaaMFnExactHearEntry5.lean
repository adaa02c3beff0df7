/- The law FnExactHearEntry of the program: its proof, part 5. -/
import Derived.Test.YtgccoekganghhaaMFnExactHearEntry2
import Derived.Test.YtgccoekganghhaaMFnExactHearEntry4
import Derived.Test.YtgccoekganghhaaMFnExactHearEntry3
set_option linter.unusedVariables false
set_option linter.unusedSimpArgs false
namespace Go.Proofs.Ytgccoekganghhaa.X
open Go.RowKit Go.Proofs.YtgccoekganghhaaW.PrintWords Go.Proofs.YtgccoekganghhaaW.PrintLast Go.Proofs.YtgccoekganghhaaW.PrintMore
section
attribute [local go_sem] max2_int min2_int max_two min_two max_three min_three max_four min_four
def laws_markPartS.l0 : Nat → List (S86) → Int → Int → Option (Int × (List (S86)))
 | 0, _, _, _ => none
 | k + 1, x0, x1, x5 => if x5 < (x0.length : Int) then (if 0 ≤ x5 then ((some (x0.set (x5 : Int).toNat (⟨x1, (rd_T86 x0 x5).f1, (rd_T86 x0 x5).f2⟩ : S86) : List (S86))).bind fun y101 => ((laws_markText.f k (wrap64 (x1 + 1))).bind fun t102 => ((some (y101.set (x5 : Int).toNat (⟨(rd_T86 y101 x5).f0, t102, (rd_T86 y101 x5).f2⟩ : S86) : List (S86))).bind fun y103 => ((laws_markText.f k (wrap64 ((wrap64 (x1 + 1)) + 1))).bind fun t104 => (laws_markPartS.l0 k (y103.set (x5 : Int).toNat (⟨(rd_T86 y103 x5).f0, (rd_T86 y103 x5).f1, t104⟩ : S86)) (wrap64 ((wrap64 ((wrap64 (x1 + 1)) + 1)) + 1)) (wrap64 (x5 + 1))))))) else (none)) else (some (x1, x0))
def laws_markPartS.f (k : Nat) (l0 : List (S86)) (a1 : Int) : Option (Int × (List (S86))) := laws_markPartS.l0 k l0 a1 0
set_option maxHeartbeats 8000000 in
set_option maxRecDepth 100000 in
theorem laws_markPartS.calls (k : Nat) (P0_ : Nat → Prop) (u9000_ : Value) (l0 : List (S86)) (a1 : Int) (r1 : Int) (r2 : List (S86)) (w0 w : World) (hB : Below w0.heap.size w0 w) (ho0 : Kd.R k86 86 w w0.heap.size P0_ u9000_ l0) (h : laws_markPartS.f k l0 a1 = some (r1, r2)) :
  Calls Try.prog 17 #[u9000_, .int .i64 a1] w fun e w' => e = .returned (.int .i64 r1) ∧ Kd.R k86 86 w' w0.heap.size (fun k_ => (P0_ k_ ∨ w.heap.size ≤ k_)) u9000_ r2 ∧ Below w0.heap.size w0 w' ∧ Kept w w' (fun k_ => P0_ k_) := by
 have HO0 := mz (show Kd.R k86 86 w w0.heap.size (fun k_ => (P0_ k_ ∨ w.heap.size ≤ k_)) u9000_ l0 from Kd.R_mono ho0 (fun k_ hk => (.inl hk)))
 have HK := mz (Kept.refl w (fun k_ => P0_ k_))
 have HW0 := mz hB.size
 have HB := mz hB
 clear hB
 have H : (laws_markPartS.l0 k l0 a1 0) = some (r1, r2) := h
 clear h
 have H' := mz H
 clear H
 go_enter Try.func17, Try.ntmps17
 go_wp2
 go_loopg [1, 5] k (fun kq v1 v5 w' => ∃ (x0_1 : List (S86)) (x1_1 : Int) (x5_1 : Int), v1 = .int .i64 x1_1 ∧ v5 = .int .i64 x5_1 ∧ Aside0 (laws_markPartS.l0 kq x0_1 x1_1 x5_1 = some (r1, r2)) ∧ Aside0 (kq ≤ k) ∧ Aside0 (Kd.R k86 86 w' w0.heap.size (fun k_ => (P0_ k_ ∨ w.heap.size ≤ k_)) u9000_ x0_1) ∧ Aside0 (Kept w w' (fun k_ => P0_ k_)) ∧ Aside0 (Below w0.heap.size w0 w'))
 case atStart => exact ⟨(l0), (a1), (0), a30_, a30_, H', ⟨Nat.le_refl _⟩, ⟨by (with_reducible repeat (first | apply Kd.R_alloc | apply Kd.R_drewN | apply Kd.R_drew)); exact HO0.out⟩, ⟨by repeat (first | (with_reducible first | exact HK.out | apply Kept.alloc | apply Kept.drewN | apply Kept.drew) | exact HK.out)⟩, ⟨by repeat (first | (with_reducible first | exact HB.out | apply below_alloc | apply pw_below_drewN | apply below_drew1) | exact HB.out)⟩⟩
 case round =>
  clear H'
  try clear c1
  try clear p2
  obtain ⟨x0_1, x1_1, x5_1, rfl, rfl, HA, HK1, HO_0, HK, HB⟩ := hrel
  cases gk with
  | zero => exact absurd HA.out (by simp [laws_markPartS.l0])
  | succ k1 =>
   have H := HA.out
   clear HA
   simp only [laws_markPartS.l0] at H
   by_cases c3 : x5_1 < (x0_1.length : Int)
   ·rw [if_pos c3] at H
    have c3b0 : decide (x5_1 < (x0_1.length : Int)) = true := decide_eq_true c3
    clear c3
    by_cases c4 : 0 ≤ x5_1
    ·rw [if_pos c4] at H
     have c4b0 : decide (0 ≤ x5_1) = true := decide_eq_true c4
     clear c4
     obtain ⟨y101, hy101⟩ : ∃ y_ : List (S86), y_ = (x0_1.set (x5_1 : Int).toNat (⟨x1_1, (rd_T86 x0_1 x5_1).f1, (rd_T86 x0_1 x5_1).f2⟩ : S86)) := ⟨_, rfl⟩
     replace H : ((laws_markText.f k1 (wrap64 (x1_1 + 1))).bind fun t102 => ((some (y101.set (x5_1 : Int).toNat (⟨(rd_T86 y101 x5_1).f0, t102, (rd_T86 y101 x5_1).f2⟩ : S86) : List (S86))).bind fun y103 => ((laws_markText.f k1 (wrap64 ((wrap64 (x1_1 + 1)) + 1))).bind fun t104 => (laws_markPartS.l0 k1 (y103.set (x5_1 : Int).toNat (⟨(rd_T86 y103 x5_1).f0, (rd_T86 y103 x5_1).f1, t104⟩ : S86)) (wrap64 ((wrap64 ((wrap64 (x1_1 + 1)) + 1)) + 1)) (wrap64 (x5_1 + 1)))))) = some (r1, r2) := by first | (rw [hy101]; with_reducible exact H) | (have H2_ := (Option.bind_some _ _).symm.trans H; rw [hy101]; with_reducible exact H2_) | (have H2_ := (Option.bind_some _ _).symm.trans H; with_reducible exact H2_) | with_reducible exact H | (rw [hy101]; exact H) | exact H
     have Ny101 := mz hy101
     clear hy101
     replace H := be0_ H
     obtain ⟨t102, A60, H⟩ := H
     replace H : ((some (y101.set (x5_1 : Int).toNat (⟨(rd_T86 y101 x5_1).f0, t102, (rd_T86 y101 x5_1).f2⟩ : S86) : List (S86))).bind fun y103 => ((laws_markText.f k1 (wrap64 ((wrap64 (x1_1 + 1)) + 1))).bind fun t104 => (laws_markPartS.l0 k1 (y103.set (x5_1 : Int).toNat (⟨(rd_T86 y103 x5_1).f0, (rd_T86 y103 x5_1).f1, t104⟩ : S86)) (wrap64 ((wrap64 ((wrap64 (x1_1 + 1)) + 1)) + 1)) (wrap64 (x5_1 + 1))))) = some (r1, r2) := H
     have A6 := mz A60
     clear A60
     obtain ⟨y103, hy103⟩ : ∃ y_ : List (S86), y_ = (y101.set (x5_1 : Int).toNat (⟨(rd_T86 y101 x5_1).f0, t102, (rd_T86 y101 x5_1).f2⟩ : S86)) := ⟨_, rfl⟩
     replace H : ((laws_markText.f k1 (wrap64 ((wrap64 (x1_1 + 1)) + 1))).bind fun t104 => (laws_markPartS.l0 k1 (y103.set (x5_1 : Int).toNat (⟨(rd_T86 y103 x5_1).f0, (rd_T86 y103 x5_1).f1, t104⟩ : S86)) (wrap64 ((wrap64 ((wrap64 (x1_1 + 1)) + 1)) + 1)) (wrap64 (x5_1 + 1)))) = some (r1, r2) := by first | (rw [hy103]; with_reducible exact H) | (have H2_ := (Option.bind_some _ _).symm.trans H; rw [hy103]; with_reducible exact H2_) | (have H2_ := (Option.bind_some _ _).symm.trans H; with_reducible exact H2_) | with_reducible exact H | (rw [hy103]; exact H) | exact H
     have Ny103 := mz hy103
     clear hy103
     replace H := be0_ H
     obtain ⟨t104, A80, H⟩ := H
     replace H : (laws_markPartS.l0 k1 (y103.set (x5_1 : Int).toNat (⟨(rd_T86 y103 x5_1).f0, (rd_T86 y103 x5_1).f1, t104⟩ : S86)) (wrap64 ((wrap64 ((wrap64 (x1_1 + 1)) + 1)) + 1)) (wrap64 (x5_1 + 1))) = some (r1, r2) := H
     have A8 := mz A80
     clear A80
     obtain ⟨y105, hy105⟩ : ∃ y_ : List (S86), y_ = (y103.set (x5_1 : Int).toNat (⟨(rd_T86 y103 x5_1).f0, (rd_T86 y103 x5_1).f1, t104⟩ : S86)) := ⟨_, rfl⟩
     replace H : (laws_markPartS.l0 k1 y105 (wrap64 ((wrap64 ((wrap64 (x1_1 + 1)) + 1)) + 1)) (wrap64 (x5_1 + 1))) = some (r1, r2) := by first | (rw [hy105]; with_reducible exact H) | (have H2_ := (Option.bind_some _ _).symm.trans H; rw [hy105]; with_reducible exact H2_) | (have H2_ := (Option.bind_some _ _).symm.trans H; with_reducible exact H2_) | with_reducible exact H | (rw [hy105]; exact H) | exact H
     have Ny105 := mz hy105
     clear hy105
     have H' := mz H
     clear H
     obtain ⟨Ao10, co10, eo10⟩ := Kd.R_slice HO_0.out
     subst eo10
     have p5 : 0 ≤ (x5_1 : Int) := of_decide_eq_true a29_
     have q5 : (x5_1 : Int) < ((x0_1.length : Int) : Int) := of_decide_eq_true a29_
     obtain ⟨go5, co5, eo5, gb5, gl5, cl5, HG5⟩ := Kd.R_form HO_0.out (by omega)
     (first | cases eo5 | (injection eo5 with ea_ en_ ec_; (first | subst ea_ | (injection ea_ with ea_; subst ea_)); subst ec_; clear en_))
     have GB5 := mz gb5
     have GG5 := mz HG5
     clear gb5 gl5 HG5
     have HMgo5 := mz (show (P0_ go5 ∨ w.heap.size ≤ go5) from (HO_0.out.1 _ rfl))
     obtain ⟨ce5, hcl5, hM5, hcc5, hfr5⟩ := Kd.R_elem HO_0.out z86 (x5_1 : Int) p5 q5
     obtain rfl := k86_openM hM5
     have hx5_0 : wr.cell? ⟨go5, (x5_1 : Int).toNat * 3, none⟩ = some (.int .i64 ((rd_T86 x0_1 x5_1).f0)) := hcc5 0 _ rfl
     have hx5_1 : wr.cell? ⟨go5, (x5_1 : Int).toNat * 3 + 1, none⟩ = some (.string ((rd_T86 x0_1 x5_1).f1)) := hcc5 1 _ rfl
     have hx5_2 : wr.cell? ⟨go5, (x5_1 : Int).toNat * 3 + 2, none⟩ = some (.string ((rd_T86 x0_1 x5_1).f2)) := hcc5 2 _ rfl
     have hf5_0 : wr.frozen? ⟨go5, (x5_1 : Int).toNat * 3, none⟩ = false := hfr5 0
     have hf5_1 : wr.frozen? ⟨go5, (x5_1 : Int).toNat * 3 + 1, none⟩ = false := hfr5 1
     have hf5_2 : wr.frozen? ⟨go5, (x5_1 : Int).toNat * 3 + 2, none⟩ = false := hfr5 2
     clear hcl5 hcc5 hfr5 hM5
     replace p5 := eq_true p5
     replace q5 := eq_true q5
     have HX11 := mz (show Kd.R k86 86 wr w0.heap.size (fun k_ => (P0_ k_ ∨ w.heap.size ≤ k_)) (.slice (some ⟨go5, 0, none⟩) x0_1.length co10) x0_1 from a25_)
     obtain ⟨ce11, hcl11, hM11, hcc11, hfr11⟩ := Kd.R_elem HX11.out z86 (x5_1 : Int) (of_decide_eq_true a29_) (by have h_ : (x5_1 : Int) < ((x0_1.length : Int) : Int) := of_decide_eq_true a29_; first | exact h_ | (have e_ := (Kd.R_reads' HO_0.out).1; omega) | simpa using h_)
     obtain rfl := k86_openM hM11
     have HP11 := Kd.R_seg HX11.out (x5_1 : Int) (of_decide_eq_true a29_) (by have h_ : (x5_1 : Int) < ((x0_1.length : Int) : Int) := of_decide_eq_true a29_; first | exact h_ | (have e_ := (Kd.R_reads' HO_0.out).1; omega) | simpa using h_) (seg := [.int .i64 x1_1]) (j := 0) hcl11 hcc11 (show 1 ≤ 3 from by decide) (x' := (⟨x1_1, (rd_T86 x0_1 x5_1).f1, (rd_T86 x0_1 x5_1).f2⟩ : S86)) (k86_mkM _ _ _ (⟨x1_1, (rd_T86 x0_1 x5_1).f1, (rd_T86 x0_1 x5_1).f2⟩ : S86) ) (fun _ hk => hk)
     have hx11_0 := hcc11 0 _ rfl
     (try simp only [show (k86).sz = 3 from rfl, Nat.mul_one, Nat.add_zero] at hx11_0)
     have hf11_0 := hfr11 0
     (try simp only [show (k86).sz = 3 from rfl, Nat.mul_one, Nat.add_zero] at hf11_0)
     clear hcl11 hcc11 hfr11 hM11
     go_wp2_with (first | ((with_reducible refine gate_store (t := 3) (p := 16) rfl ?_); refine store_event (t := 3) (p := 16) (v := ?vo_w12) (w1 := (wr.setCell ⟨go5, (x5_1 : Int).toNat * 3, none⟩ (.int .i64 x1_1))) ?hg ?ho ?hn ?hr ?_; (case ho => rfl); (case hg => rfl); (case hn => rfl); (case hr => first | (go_simp; done) | (go_simp; rfl)); intro w12 hw; have hg : wr.grownBy w12 (some go5) := (by rw [hw]; exact HP11.2); have hp_ : Kd.R k86 86 w12 w0.heap.size (fun k_ => (P0_ k_ ∨ w.heap.size ≤ k_)) (.slice (some ⟨go5, 0, none⟩) x0_1.length co10) y101 := (by rw [hw, Ny101.out]; exact HP11.1); clear HP11; have n0_ := mz (hp_); have n1_ := mz ((by rw [hw]; exact below_set (HB.out) GB5.out : Below w0.heap.size w0 w12)); have n2_ := mz (Kept.of_grown (S := (fun k_ => P0_ k_)) hg a13_ (fun k_ e_ => (HO_0.out.1 k_ e_))); clear HO_0; clear HB; clear HK; have HO_0 := n0_; have HB := n1_; have HK := n2_; clear n0_ n1_ n2_; clear hg hw hp_) | ((with_reducible refine gate_callee (f := 58) rfl ?_); refine goesL_ (some 22) rfl rfl Try.func58 (by kernel_rfl) rfl #[.int .i64 (wrap64 (x1_1 + 1))] rfl a11_ ?_; (with_reducible refine (laws_markText.calls k1 (wrap64 (x1_1 + 1)) t102 _ A6.out).mono ?_); rintro e w13 ⟨rfl, hb⟩; refine ⟨_, rfl, ?_⟩; have n0_ := mz (Kd.R_below a25_ hb); have n1_ := mz (Kept.below (S := (fun k_ => P0_ k_)) a13_ hb); have n2_ := mz (bs0_ hb); clear HO_0; clear HK; clear HB; have HO_0 := n0_; have HK := n1_; have HB := n2_; clear n0_ n1_ n2_; (try clear hb); (try clear hb2); (try clear hk); (try clear hi); have p7 : 0 ≤ (x5_1 : Int) := of_decide_eq_true a29_; have q7 : (x5_1 : Int) < ((x0_1.length : Int) : Int) := of_decide_eq_true a29_; obtain ⟨ce7, hcl7, hM7, hcc7, hfr7⟩ := Kd.R_elem HO_0.out z86 (x5_1 : Int) p7 q7; obtain rfl := k86_openM hM7; have hx7_0 : w13.cell? ⟨go5, (x5_1 : Int).toNat * 3, none⟩ = some (.int .i64 ((rd_T86 y101 x5_1).f0)) := hcc7 0 _ rfl; have hx7_1 : w13.cell? ⟨go5, (x5_1 : Int).toNat * 3 + 1, none⟩ = some (.string ((rd_T86 y101 x5_1).f1)) := hcc7 1 _ rfl; have hx7_2 : w13.cell? ⟨go5, (x5_1 : Int).toNat * 3 + 2, none⟩ = some (.string ((rd_T86 y101 x5_1).f2)) := hcc7 2 _ rfl; have hf7_0 : w13.frozen? ⟨go5, (x5_1 : Int).toNat * 3, none⟩ = false := hfr7 0; have hf7_1 : w13.frozen? ⟨go5, (x5_1 : Int).toNat * 3 + 1, none⟩ = false := hfr7 1; have hf7_2 : w13.frozen? ⟨go5, (x5_1 : Int).toNat * 3 + 2, none⟩ = false := hfr7 2; clear hcl7 hcc7 hfr7 hM7; replace p7 := eq_true p7; replace q7 := eq_true q7; have HX14 := mz (show Kd.R k86 86 w13 w0.heap.size (fun k_ => (P0_ k_ ∨ w.heap.size ≤ k_)) (.slice (some ⟨go5, 0, none⟩) x0_1.length co10) y101 from a25_); obtain ⟨ce14, hcl14, hM14, hcc14, hfr14⟩ := Kd.R_elem HX14.out z86 (x5_1 : Int) (of_decide_eq_true a29_) (by have h_ : (x5_1 : Int) < ((x0_1.length : Int) : Int) := of_decide_eq_true a29_; first | exact h_ | (have e_ := (Kd.R_reads' HO_0.out).1; omega) | simpa using h_); obtain rfl := k86_openM hM14; have HP14 := Kd.R_seg HX14.out (x5_1 : Int) (of_decide_eq_true a29_) (by have h_ : (x5_1 : Int) < ((x0_1.length : Int) : Int) := of_decide_eq_true a29_; first | exact h_ | (have e_ := (Kd.R_reads' HO_0.out).1; omega) | simpa using h_) (seg := [.string t102]) (j := 1) hcl14 hcc14 (show 2 ≤ 3 from by decide) (x' := (⟨(rd_T86 y101 x5_1).f0, t102, (rd_T86 y101 x5_1).f2⟩ : S86)) (k86_mkM _ _ _ (⟨(rd_T86 y101 x5_1).f0, t102, (rd_T86 y101 x5_1).f2⟩ : S86) ) (fun _ hk => hk); have hx14_1 := hcc14 1 _ rfl; (try simp only [show (k86).sz = 3 from rfl, Nat.mul_one, Nat.add_zero] at hx14_1); have hf14_1 := hfr14 1; (try simp only [show (k86).sz = 3 from rfl, Nat.mul_one, Nat.add_zero] at hf14_1); clear hcl14 hcc14 hfr14 hM14) | ((with_reducible refine gate_store (t := 9) (p := 24) rfl ?_); refine store_event (t := 9) (p := 24) (v := ?vo_w15) (w1 := (w13.setCell ⟨go5, (x5_1 : Int).toNat * 3 + 1, none⟩ (.string t102))) ?hg ?ho ?hn ?hr ?_; (case ho => rfl); (case hg => rfl); (case hn => rfl); (case hr => first | (go_simp; done) | (go_simp; rfl)); intro w15 hw; have hg : w13.grownBy w15 (some go5) := (by rw [hw]; exact HP14.2); have hp_ : Kd.R k86 86 w15 w0.heap.size (fun k_ => (P0_ k_ ∨ w.heap.size ≤ k_)) (.slice (some ⟨go5, 0, none⟩) x0_1.length co10) y103 := (by rw [hw, Ny103.out]; exact HP14.1); clear HP14; have n0_ := mz (hp_); have n1_ := mz ((by rw [hw]; exact below_set (HB.out) GB5.out : Below w0.heap.size w0 w15)); have n2_ := mz (Kept.of_grown (S := (fun k_ => P0_ k_)) hg a13_ (fun k_ e_ => (HO_0.out.1 k_ e_))); clear HO_0; clear HB; clear HK; have HO_0 := n0_; have HB := n1_; have HK := n2_; clear n0_ n1_ n2_; clear hg hw hp_) | ((with_reducible refine gate_callee (f := 58) rfl ?_); refine goesL_ (some 30) rfl rfl Try.func58 (by kernel_rfl) rfl #[.int .i64 (wrap64 ((wrap64 (x1_1 + 1)) + 1))] rfl a11_ ?_; (with_reducible refine (laws_markText.calls k1 (wrap64 ((wrap64 (x1_1 + 1)) + 1)) t104 _ A8.out).mono ?_); rintro e w16 ⟨rfl, hb⟩; refine ⟨_, rfl, ?_⟩; have n0_ := mz (Kd.R_below a25_ hb); have n1_ := mz (Kept.below (S := (fun k_ => P0_ k_)) a13_ hb); have n2_ := mz (bs0_ hb); clear HO_0; clear HK; clear HB; have HO_0 := n0_; have HK := n1_; have HB := n2_; clear n0_ n1_ n2_; (try clear hb); (try clear hb2); (try clear hk); (try clear hi); have p9 : 0 ≤ (x5_1 : Int) := of_decide_eq_true a29_; have q9 : (x5_1 : Int) < ((x0_1.length : Int) : Int) := of_decide_eq_true a29_; obtain ⟨ce9, hcl9, hM9, hcc9, hfr9⟩ := Kd.R_elem HO_0.out z86 (x5_1 : Int) p9 q9; obtain rfl := k86_openM hM9; have hx9_0 : w16.cell? ⟨go5, (x5_1 : Int).toNat * 3, none⟩ = some (.int .i64 ((rd_T86 y103 x5_1).f0)) := hcc9 0 _ rfl; have hx9_1 : w16.cell? ⟨go5, (x5_1 : Int).toNat * 3 + 1, none⟩ = some (.string ((rd_T86 y103 x5_1).f1)) := hcc9 1 _ rfl; have hx9_2 : w16.cell? ⟨go5, (x5_1 : Int).toNat * 3 + 2, none⟩ = some (.string ((rd_T86 y103 x5_1).f2)) := hcc9 2 _ rfl; have hf9_0 : w16.frozen? ⟨go5, (x5_1 : Int).toNat * 3, none⟩ = false := hfr9 0; have hf9_1 : w16.frozen? ⟨go5, (x5_1 : Int).toNat * 3 + 1, none⟩ = false := hfr9 1; have hf9_2 : w16.frozen? ⟨go5, (x5_1 : Int).toNat * 3 + 2, none⟩ = false := hfr9 2; clear hcl9 hcc9 hfr9 hM9; replace p9 := eq_true p9; replace q9 := eq_true q9; have HX17 := mz (show Kd.R k86 86 w16 w0.heap.size (fun k_ => (P0_ k_ ∨ w.heap.size ≤ k_)) (.slice (some ⟨go5, 0, none⟩) x0_1.length co10) y103 from a25_); obtain ⟨ce17, hcl17, hM17, hcc17, hfr17⟩ := Kd.R_elem HX17.out z86 (x5_1 : Int) (of_decide_eq_true a29_) (by have h_ : (x5_1 : Int) < ((x0_1.length : Int) : Int) := of_decide_eq_true a29_; first | exact h_ | (have e_ := (Kd.R_reads' HO_0.out).1; omega) | simpa using h_); obtain rfl := k86_openM hM17; have HP17 := Kd.R_seg HX17.out (x5_1 : Int) (of_decide_eq_true a29_) (by have h_ : (x5_1 : Int) < ((x0_1.length : Int) : Int) := of_decide_eq_true a29_; first | exact h_ | (have e_ := (Kd.R_reads' HO_0.out).1; omega) | simpa using h_) (seg := [.string t104]) (j := 2) hcl17 hcc17 (show 3 ≤ 3 from by decide) (x' := (⟨(rd_T86 y103 x5_1).f0, (rd_T86 y103 x5_1).f1, t104⟩ : S86)) (k86_mkM _ _ _ (⟨(rd_T86 y103 x5_1).f0, (rd_T86 y103 x5_1).f1, t104⟩ : S86) ) (fun _ hk => hk); have hx17_2 := hcc17 2 _ rfl; (try simp only [show (k86).sz = 3 from rfl, Nat.mul_one, Nat.add_zero] at hx17_2); have hf17_2 := hfr17 2; (try simp only [show (k86).sz = 3 from rfl, Nat.mul_one, Nat.add_zero] at hf17_2); clear hcl17 hcc17 hfr17 hM17) | ((with_reducible refine gate_store (t := 9) (p := 32) rfl ?_); refine store_event (t := 9) (p := 32) (v := ?vo_w18) (w1 := (w16.setCell ⟨go5, (x5_1 : Int).toNat * 3 + 2, none⟩ (.string t104))) ?hg ?ho ?hn ?hr ?_; (case ho => rfl); (case hg => rfl); (case hn => rfl); (case hr => first | (go_simp; done) | (go_simp; rfl)); intro w18 hw; have hg : w16.grownBy w18 (some go5) := (by rw [hw]; exact HP17.2); have hp_ : Kd.R k86 86 w18 w0.heap.size (fun k_ => (P0_ k_ ∨ w.heap.size ≤ k_)) (.slice (some ⟨go5, 0, none⟩) x0_1.length co10) y105 := (by rw [hw, Ny105.out]; exact HP17.1); clear HP17; have n0_ := mz (hp_); have n1_ := mz ((by rw [hw]; exact below_set (HB.out) GB5.out : Below w0.heap.size w0 w18)); have n2_ := mz (Kept.of_grown (S := (fun k_ => P0_ k_)) hg a13_ (fun k_ e_ => (HO_0.out.1 k_ e_))); clear HO_0; clear HB; clear HK; have HO_0 := n0_; have HB := n1_; have HK := n2_; clear n0_ n1_ n2_; clear hg hw hp_))
     go_roundg k1
     case measure => have := HK1.out; omega
     case rel => exact ⟨(y105), (wrap64 ((wrap64 ((wrap64 (x1_1 + 1)) + 1)) + 1)), (wrap64 (x5_1 + 1)), a30_, a30_, H', ⟨by have := HK1.out; omega⟩, ⟨by (with_reducible repeat (first | apply Kd.R_alloc | apply Kd.R_drewN | apply Kd.R_drew)); exact HO_0.out⟩, ⟨by repeat (first | (with_reducible first | exact HK.out | apply Kept.alloc | apply Kept.drewN | apply Kept.drew) | exact HK.out)⟩, ⟨by repeat (first | (with_reducible first | exact HB.out | apply below_alloc | apply pw_below_drewN | apply below_drew1) | exact HB.out)⟩⟩
    ·rw [if_neg c4] at H
     exact absurd H (by simp)
   ·rw [if_neg c3] at H
    have c3b0 : decide (x5_1 < (x0_1.length : Int)) = false := decide_eq_false c3
    clear c3
    simp only [Option.some.injEq, Prod.mk.injEq] at H
    obtain ⟨rfl, rfl⟩ := H
    obtain ⟨Ao19, co19, eo19⟩ := Kd.R_slice HO_0.out
    subst eo19
    go_wp2
    go_ret
    exact ⟨a27_, a25_, a12_, a13_⟩
end
section
attribute [local go_sem] max2_int min2_int max_two min_two max_three min_three max_four min_four
def laws_heldPartS.l0 : Nat → List (S86) → Int → Int → Option (Int)
 | 0, _, _, _ => none
 | k + 1, x0, x1, x5 => if x5 < (x0.length : Int) then (if 0 ≤ x5 then (if ((rd_T86 x0 x5).f0) = x1 then ((laws_markText.f k (wrap64 (x1 + 1))).bind fun t103 => (if ((rd_T86 x0 x5).f1).toList = t103.toList then ((laws_markText.f k (wrap64 ((wrap64 (x1 + 1)) + 1))).bind fun t105 => (if ((rd_T86 x0 x5).f2).toList = t105.toList then (laws_heldPartS.l0 k x0 (wrap64 ((wrap64 ((wrap64 (x1 + 1)) + 1)) + 1)) (wrap64 (x5 + 1))) else (some (-1)))) else (some (-1)))) else (some (-1))) else (none)) else (some x1)
def laws_heldPartS.f (k : Nat) (l0 : List (S86)) (a1 : Int) : Option (Int) := laws_heldPartS.l0 k l0 a1 0
def laws_heldPartS.T7 : Bool × List (List Nat × List Nat) := (true, [([], []), ([], []), ([0, 1], [0, 1]), ([2], [2]), ([3], [3]), ([], []), ([5], [5]), ([4, 6], [4, 6])])
def laws_heldPartS.B7 : List Nat := [0, 0, 3, 7, 15, 0, 32, 127]
theorem laws_heldPartS.tab7 : rtab .any (opsOf Try.f71 7) = laws_heldPartS.T7 := by kernel_rfl
theorem laws_heldPartS.bits7 : waitsOk laws_heldPartS.T7.2 laws_heldPartS.B7 = true := by kernel_rfl
def laws_heldPartS.T10 : Bool × List (List Nat × List Nat) := (true, [([], []), ([], []), ([0, 1], [0, 1]), ([2], [2]), ([3], [3]), ([], []), ([5], [5]), ([4, 6], [4, 6])])
def laws_heldPartS.B10 : List Nat := [0, 0, 3, 7, 15, 0, 32, 127]
theorem laws_heldPartS.tab10 : rtab .any (opsOf Try.f71 10) = laws_heldPartS.T10 := by kernel_rfl
theorem laws_heldPartS.bits10 : waitsOk laws_heldPartS.T10.2 laws_heldPartS.B10 = true := by kernel_rfl
set_option maxHeartbeats 8000000 in
set_option maxRecDepth 100000 in
theorem laws_heldPartS.calls (k : Nat) (A0 : Option Addr) (c0 : Nat) (l0 : List (S86)) (a1 : Int) (r : Int) (w : World) (hr0 : Kd.C k86 w A0 l0.length l0) (hc0 : l0.length ≤ c0) (h : laws_heldPartS.f k l0 a1 = some r) :
  Calls Try.prog 71 #[.slice A0 l0.length c0, .int .i64 a1] w fun e w' => e = .returned (.int .i64 r) ∧ Below w.heap.size w w' := by
 have HR0 := mz hr0
 have HC0 := mz hc0
 clear hr0 hc0
 have HB := mz (Below.refl w.heap.size w)
 have H : (laws_heldPartS.l0 k l0 a1 0) = some r := h
 clear h
 have H' := mz H
 clear H
 go_enter Try.func71, Try.ntmps71
 go_wp2
 go_loopg [1, 5] k (fun kq v1 v5 w' => ∃ (x1_1 : Int) (x5_1 : Int), v1 = .int .i64 x1_1 ∧ v5 = .int .i64 x5_1 ∧ Aside0 (laws_heldPartS.l0 kq l0 x1_1 x5_1 = some r) ∧ Aside0 (kq ≤ k) ∧ Aside0 (Below w.heap.size w w'))
 case atStart => exact ⟨(a1), (0), a30_, a30_, H', ⟨Nat.le_refl _⟩, ⟨by repeat (first | (with_reducible first | exact HB.out | apply below_alloc | apply pw_below_drewN | apply below_drew1) | exact HB.out)⟩⟩
 case round =>
  clear H'
  try clear p2
  obtain ⟨x1_1, x5_1, rfl, rfl, HA, HK1, HB⟩ := hrel
  cases gk with
  | zero => exact absurd HA.out (by simp [laws_heldPartS.l0])
  | succ k1 =>
   have H := HA.out
   clear HA
   simp only [laws_heldPartS.l0] at H
   by_cases c3 : x5_1 < (l0.length : Int)
   ·rw [if_pos c3] at H
    have c3b0 : decide (x5_1 < (l0.length : Int)) = true := decide_eq_true c3
    clear c3
    by_cases c4 : 0 ≤ x5_1
    ·rw [if_pos c4] at H
     have c4b0 : decide (0 ≤ x5_1) = true := decide_eq_true c4
     clear c4
     by_cases c5 : ((rd_T86 l0 x5_1).f0) = x1_1
     ·rw [if_pos c5] at H
      have c5b0 : (((rd_T86 l0 x5_1).f0) == x1_1) = true := beq_iff_eq.mpr c5
      have c5b1 : (((rd_T86 l0 x5_1).f0) != x1_1) = false := bne_eq_false_iff_eq.mpr c5
      clear c5
      replace H := be0_ H
      obtain ⟨t103, A60, H⟩ := H
      replace H : (if ((rd_T86 l0 x5_1).f1).toList = t103.toList then ((laws_markText.f k1 (wrap64 ((wrap64 (x1_1 + 1)) + 1))).bind fun t105 => (if ((rd_T86 l0 x5_1).f2).toList = t105.toList then (laws_heldPartS.l0 k1 l0 (wrap64 ((wrap64 ((wrap64 (x1_1 + 1)) + 1)) + 1)) (wrap64 (x5_1 + 1))) else (some (-1)))) else (some (-1))) = some r := H
      have A6 := mz A60
      clear A60
      by_cases c7 : ((rd_T86 l0 x5_1).f1).toList = t103.toList
      ·rw [if_pos c7] at H
       have c7b0 : (((rd_T86 l0 x5_1).f1).toList == t103.toList) = true := beq_iff_eq.mpr c7
       have c7b1 : (((rd_T86 l0 x5_1).f1).toList != t103.toList) = false := bne_eq_false_iff_eq.mpr c7
       clear c7
       replace H := be0_ H
       obtain ⟨t105, A80, H⟩ := H
       replace H : (if ((rd_T86 l0 x5_1).f2).toList = t105.toList then (laws_heldPartS.l0 k1 l0 (wrap64 ((wrap64 ((wrap64 (x1_1 + 1)) + 1)) + 1)) (wrap64 (x5_1 + 1))) else (some (-1))) = some r := H
       have A8 := mz A80
       clear A80
       by_cases c9 : ((rd_T86 l0 x5_1).f2).toList = t105.toList
       ·rw [if_pos c9] at H
        have c9b0 : (((rd_T86 l0 x5_1).f2).toList == t105.toList) = true := beq_iff_eq.mpr c9
        have c9b1 : (((rd_T86 l0 x5_1).f2).toList != t105.toList) = false := bne_eq_false_iff_eq.mpr c9
        clear c9
        have H' := mz H
        clear H
        have p101 : 0 ≤ (x5_1 : Int) := of_decide_eq_true a29_
        have q101 : x5_1 < (l0.length : Int) := of_decide_eq_true a29_
        obtain ⟨ad101, e101, hx101_0, hx101_1, hx101_2⟩ := at_T86 HR0.out x5_1 p101 q101
        cases e101
        replace hx101_0 := bc_ HB.out hx101_0
        replace hx101_1 := bc_ HB.out hx101_1
        replace hx101_2 := bc_ HB.out hx101_2
        replace p101 := eq_true p101
        replace q101 := eq_true q101
        try go_wp2
        have n0_ := mz (below_drew1 HB.out)
        clear HB
        have HB := n0_
        clear n0_
        have p102 : 0 ≤ (x5_1 : Int) := of_decide_eq_true a29_
        have q102 : x5_1 < (l0.length : Int) := of_decide_eq_true a29_
        obtain ⟨ad102, e102, hx102_0, hx102_1, hx102_2⟩ := at_T86 HR0.out x5_1 p102 q102
        have hw102_2 := hx102_2
        have hw102_1 := hx102_1
        have hw102_0 := hx102_0
        obtain rfl : ad101 = ad102 := (by injection e102)
        replace hx102_0 := bc_ HB.out hx102_0
        replace hx102_1 := bc_ HB.out hx102_1
        replace hx102_2 := bc_ HB.out hx102_2
        replace p102 := eq_true p102
        replace q102 := eq_true q102
        refine start_ (n := 8) (S := fun w' => w'.cell? (ad101.add ((x5_1).toNat * 3)) = some (.int .i64 ((rd_T86 l0 x5_1).f0)) ∧ w'.cell? ⟨(ad101.add ((x5_1).toNat * 3)).block, (ad101.add ((x5_1).toNat * 3)).off + 1, none⟩ = some (.string ((rd_T86 l0 x5_1).f1)) ∧ w'.cell? ⟨(ad101.add ((x5_1).toNat * 3)).block, (ad101.add ((x5_1).toNat * 3)).off + 2, none⟩ = some (.string ((rd_T86 l0 x5_1).f2))) (ds := []) #[false, false, false, false, false, false, false, false] (by kernel_rfl) rfl rfl ⟨(bc_ HB.out hw102_0 :), (bc_ HB.out hw102_1 :), (bc_ HB.out hw102_2 :)⟩ (fun hHeld => ?_); refine with_tabW laws_heldPartS.tab7 laws_heldPartS.bits7 (fun HT_ HW_ => ?_)
        generalize wr.drew = w10 at HB hx102_0 hx102_1 hx102_2 hHeld ⊢
        refine pure_ (i := 0) (N := some 21) (v := ?_) (a' := ?_) #[true, false, false, false, false, false, false, false] rfl rfl (any_of HT_.out (by kernel_rfl)) (fun _ _ _ h => h) (Or.inl ⟨by rfl, ?_⟩) ?_ ?_
        rotate_left
        ·intro w'
         go_simp
         with_reducible rfl
        rotate_left
        ·simp only [Act.put, List.setIfInBounds_toArray, List.set_cons_zero, List.set_cons_succ, i64_w, i32_w]
         rfl
        refine pure_ (i := 1) (N := some 22) (v := ?_) (a' := ?_) #[true, true, false, false, false, false, false, false] rfl rfl (any_of HT_.out (by kernel_rfl)) (fun _ _ _ h => h) (Or.inl ⟨by rfl, ?_⟩) ?_ ?_
        rotate_left
        ·intro w'
         go_simp
         with_reducible rfl
        rotate_left
        ·simp only [Act.put, List.setIfInBounds_toArray, List.set_cons_zero, List.set_cons_succ, i64_w, i32_w]
         rfl
        refine pure_ (i := 2) (N := some 23) (v := ?_) (a' := ?_) #[true, true, true, false, false, false, false, false] rfl rfl (any_of HT_.out (by kernel_rfl)) (fun _ _ _ h => h) (Or.inl ⟨by rfl, ?_⟩) ?_ ?_
        rotate_left
        ·intro w'
         go_simp
         with_reducible rfl
        rotate_left
        ·simp only [Act.put, List.setIfInBounds_toArray, List.set_cons_zero, List.set_cons_succ, i64_w, i32_w]
         rfl
        refine pure_ (i := 3) (N := some 24) (v := ?_) (a' := ?_) #[true, true, true, true, false, false, false, false] rfl rfl (any_of HT_.out (by kernel_rfl)) (fun _ _ _ h => h) (Or.inl ⟨by rfl, ?_⟩) ?_ ?_
        rotate_left
        ·intro w'
         go_simp
         with_reducible rfl
        rotate_left
        ·simp only [Act.put, List.setIfInBounds_toArray, List.set_cons_zero, List.set_cons_succ, i64_w, i32_w]
         rfl
        refine pure_ (i := 5) (N := some 26) (v := ?_) (a' := ?_) #[true, true, true, true, false, true, false, false] rfl rfl (any_of HT_.out (by kernel_rfl)) (fun _ _ _ h => h) (Or.inl ⟨by rfl, ?_⟩) ?_ ?_
        rotate_left
        ·intro w'
         go_simp
         with_reducible rfl
        rotate_left
        ·simp only [Act.put, List.setIfInBounds_toArray, List.set_cons_zero, List.set_cons_succ, i64_w, i32_w]
         rfl
        refine take_ (i := 4) (N := some 25) (v := ?_) (a' := ?_) #[true, true, true, true, true, true, false, false] rfl rfl (take_ofW HT_.out HW_.out (by kernel_rfl)) (fun _ _ _ h => h) (Or.inl ⟨by rfl, ?_⟩) hHeld ?_ ?_
        rotate_left
        ·rintro w' ⟨s0, s1, s2⟩
         go_simp
         with_reducible rfl
        rotate_left
        ·simp only [Act.put, List.setIfInBounds_toArray, List.set_cons_zero, List.set_cons_succ, i64_w, i32_w]
         rfl
        refine one_ (i := 6) (N := some 27) #[true, true, true, true, true, true, true, false] rfl rfl (one_of HT_.out (by kernel_rfl)) (by decide) (fun K hK => ?_)
        refine goes_ Try.func58 (by kernel_rfl) rfl #[.int .i64 (wrap64 (x1_1 + 1))] (by rfl) rfl rfl a11_ ?_
        with_reducible refine (laws_markText.calls k1 (wrap64 (x1_1 + 1)) t103 _ A6.out).mono ?_
        rintro e w11 ⟨rfl, hb⟩
        refine ⟨_, rfl, ?_⟩
        have n0_ := mz (bs0_ hb)
        clear HB
        have HB := n0_
        clear n0_
        (try clear hb)
        (try clear hb2)
        (try clear hk)
        (try clear hi)
        refine hK.out _ _ ⟨(bc_ HB.out hw102_0 :), (bc_ HB.out hw102_1 :), (bc_ HB.out hw102_2 :)⟩ (fun hHeld => ?_)
        clear hK K
        refine norm_ (a' := ?_) ?_ ?_
        rotate_left
        ·show Act.put _ (some 27) _ = _
         simp only [Act.put, List.setIfInBounds_toArray, List.set_cons_zero, List.set_cons_succ, i64_w, i32_w]
         rfl
        refine pure_ (i := 7) (N := some 28) (v := ?_) (a' := ?_) #[true, true, true, true, true, true, true, true] rfl rfl (any_of HT_.out (by kernel_rfl)) (fun _ _ _ h => h) (Or.inl ⟨by rfl, ?_⟩) ?_ ?_
        rotate_left
        ·intro w'
         go_simp
         with_reducible rfl
        rotate_left
        ·simp only [Act.put, List.setIfInBounds_toArray, List.set_cons_zero, List.set_cons_succ, i64_w, i32_w]
         rfl
        refine done_ (done_of HT_.out (by kernel_rfl)) ?_
        try go_wp2
        have n0_ := mz (below_drew1 HB.out)
        clear HB
        have HB := n0_
        clear n0_
        have p104 : 0 ≤ (x5_1 : Int) := of_decide_eq_true a29_
        have q104 : x5_1 < (l0.length : Int) := of_decide_eq_true a29_
        obtain ⟨ad104, e104, hx104_0, hx104_1, hx104_2⟩ := at_T86 HR0.out x5_1 p104 q104
        have hw104_2 := hx104_2
        have hw104_1 := hx104_1
        have hw104_0 := hx104_0
        obtain rfl : ad101 = ad104 := (by injection e104)
        replace hx104_0 := bc_ HB.out hx104_0
        replace hx104_1 := bc_ HB.out hx104_1
        replace hx104_2 := bc_ HB.out hx104_2
        replace p104 := eq_true p104
        replace q104 := eq_true q104
        refine start_ (n := 8) (S := fun w' => w'.cell? (ad101.add ((x5_1).toNat * 3)) = some (.int .i64 ((rd_T86 l0 x5_1).f0)) ∧ w'.cell? ⟨(ad101.add ((x5_1).toNat * 3)).block, (ad101.add ((x5_1).toNat * 3)).off + 1, none⟩ = some (.string ((rd_T86 l0 x5_1).f1)) ∧ w'.cell? ⟨(ad101.add ((x5_1).toNat * 3)).block, (ad101.add ((x5_1).toNat * 3)).off + 2, none⟩ = some (.string ((rd_T86 l0 x5_1).f2))) (ds := []) #[false, false, false, false, false, false, false, false] (by kernel_rfl) rfl rfl ⟨(bc_ HB.out hw104_0 :), (bc_ HB.out hw104_1 :), (bc_ HB.out hw104_2 :)⟩ (fun hHeld => ?_); refine with_tabW laws_heldPartS.tab10 laws_heldPartS.bits10 (fun HT_ HW_ => ?_)
        generalize w11.drew = w12 at HB hx104_0 hx104_1 hx104_2 hHeld ⊢
        refine pure_ (i := 0) (N := some 31) (v := ?_) (a' := ?_) #[true, false, false, false, false, false, false, false] rfl rfl (any_of HT_.out (by kernel_rfl)) (fun _ _ _ h => h) (Or.inl ⟨by rfl, ?_⟩) ?_ ?_
        rotate_left
        ·intro w'
         go_simp
         with_reducible rfl
        rotate_left
        ·simp only [Act.put, List.setIfInBounds_toArray, List.set_cons_zero, List.set_cons_succ, i64_w, i32_w]
         rfl
        refine pure_ (i := 1) (N := some 32) (v := ?_) (a' := ?_) #[true, true, false, false, false, false, false, false] rfl rfl (any_of HT_.out (by kernel_rfl)) (fun _ _ _ h => h) (Or.inl ⟨by rfl, ?_⟩) ?_ ?_
        rotate_left
        ·intro w'
         go_simp
         with_reducible rfl
        rotate_left
        ·simp only [Act.put, List.setIfInBounds_toArray, List.set_cons_zero, List.set_cons_succ, i64_w, i32_w]
         rfl
        refine pure_ (i := 2) (N := some 33) (v := ?_) (a' := ?_) #[true, true, true, false, false, false, false, false] rfl rfl (any_of HT_.out (by kernel_rfl)) (fun _ _ _ h => h) (Or.inl ⟨by rfl, ?_⟩) ?_ ?_
        rotate_left
        ·intro w'
         go_simp
         with_reducible rfl
        rotate_left
        ·simp only [Act.put, List.setIfInBounds_toArray, List.set_cons_zero, List.set_cons_succ, i64_w, i32_w]
         rfl
        refine pure_ (i := 3) (N := some 34) (v := ?_) (a' := ?_) #[true, true, true, true, false, false, false, false] rfl rfl (any_of HT_.out (by kernel_rfl)) (fun _ _ _ h => h) (Or.inl ⟨by rfl, ?_⟩) ?_ ?_
        rotate_left
        ·intro w'
         go_simp
         with_reducible rfl
        rotate_left
        ·simp only [Act.put, List.setIfInBounds_toArray, List.set_cons_zero, List.set_cons_succ, i64_w, i32_w]
         rfl
        refine pure_ (i := 5) (N := some 36) (v := ?_) (a' := ?_) #[true, true, true, true, false, true, false, false] rfl rfl (any_of HT_.out (by kernel_rfl)) (fun _ _ _ h => h) (Or.inl ⟨by rfl, ?_⟩) ?_ ?_
        rotate_left
        ·intro w'
         go_simp
         with_reducible rfl
        rotate_left
        ·simp only [Act.put, List.setIfInBounds_toArray, List.set_cons_zero, List.set_cons_succ, i64_w, i32_w]
         rfl
        refine take_ (i := 4) (N := some 35) (v := ?_) (a' := ?_) #[true, true, true, true, true, true, false, false] rfl rfl (take_ofW HT_.out HW_.out (by kernel_rfl)) (fun _ _ _ h => h) (Or.inl ⟨by rfl, ?_⟩) hHeld ?_ ?_
        rotate_left
        ·rintro w' ⟨s0, s1, s2⟩
         go_simp
         with_reducible rfl
        rotate_left
        ·simp only [Act.put, List.setIfInBounds_toArray, List.set_cons_zero, List.set_cons_succ, i64_w, i32_w]
         rfl
        refine one_ (i := 6) (N := some 37) #[true, true, true, true, true, true, true, false] rfl rfl (one_of HT_.out (by kernel_rfl)) (by decide) (fun K hK => ?_)
        refine goes_ Try.func58 (by kernel_rfl) rfl #[.int .i64 (wrap64 ((wrap64 (x1_1 + 1)) + 1))] (by rfl) rfl rfl a11_ ?_
        with_reducible refine (laws_markText.calls k1 (wrap64 ((wrap64 (x1_1 + 1)) + 1)) t105 _ A8.out).mono ?_
        rintro e w13 ⟨rfl, hb⟩
        refine ⟨_, rfl, ?_⟩
        have n0_ := mz (bs0_ hb)
        clear HB
        have HB := n0_
        clear n0_
        (try clear hb)
        (try clear hb2)
        (try clear hk)
        (try clear hi)
        refine hK.out _ _ ⟨(bc_ HB.out hw104_0 :), (bc_ HB.out hw104_1 :), (bc_ HB.out hw104_2 :)⟩ (fun hHeld => ?_)
        clear hK K
        refine norm_ (a' := ?_) ?_ ?_
        rotate_left
        ·show Act.put _ (some 37) _ = _
         simp only [Act.put, List.setIfInBounds_toArray, List.set_cons_zero, List.set_cons_succ, i64_w, i32_w]
         rfl
        refine pure_ (i := 7) (N := some 38) (v := ?_) (a' := ?_) #[true, true, true, true, true, true, true, true] rfl rfl (any_of HT_.out (by kernel_rfl)) (fun _ _ _ h => h) (Or.inl ⟨by rfl, ?_⟩) ?_ ?_
        rotate_left
        ·intro w'
         go_simp
         with_reducible rfl
        rotate_left
        ·simp only [Act.put, List.setIfInBounds_toArray, List.set_cons_zero, List.set_cons_succ, i64_w, i32_w]
         rfl
        refine done_ (done_of HT_.out (by kernel_rfl)) ?_
        try go_wp2
        go_roundg k1
        case measure => have := HK1.out; omega
        case rel => exact ⟨(wrap64 ((wrap64 ((wrap64 (x1_1 + 1)) + 1)) + 1)), (wrap64 (x5_1 + 1)), a30_, a30_, H', ⟨by have := HK1.out; omega⟩, ⟨by repeat (first | (with_reducible first | exact HB.out | apply below_alloc | apply pw_below_drewN | apply below_drew1) | exact HB.out)⟩⟩
       ·rw [if_neg c9] at H
        have c9b0 : (((rd_T86 l0 x5_1).f2).toList == t105.toList) = false := beq_eq_false_iff_ne.mpr c9
        have c9b1 : (((rd_T86 l0 x5_1).f2).toList != t105.toList) = true := bne_iff_ne.mpr c9
        obtain rfl := Option.some.inj H
        have p101 : 0 ≤ (x5_1 : Int) := of_decide_eq_true a29_
        have q101 : x5_1 < (l0.length : Int) := of_decide_eq_true a29_
        obtain ⟨ad101, e101, hx101_0, hx101_1, hx101_2⟩ := at_T86 HR0.out x5_1 p101 q101
        cases e101
        replace hx101_0 := bc_ HB.out hx101_0
        replace hx101_1 := bc_ HB.out hx101_1
        replace hx101_2 := bc_ HB.out hx101_2
        replace p101 := eq_true p101
        replace q101 := eq_true q101
        try go_wp2
        have n0_ := mz (below_drew1 HB.out)
        clear HB
        have HB := n0_
        clear n0_
        have p102 : 0 ≤ (x5_1 : Int) := of_decide_eq_true a29_
        have q102 : x5_1 < (l0.length : Int) := of_decide_eq_true a29_
        obtain ⟨ad102, e102, hx102_0, hx102_1, hx102_2⟩ := at_T86 HR0.out x5_1 p102 q102
        have hw102_2 := hx102_2
        have hw102_1 := hx102_1
        have hw102_0 := hx102_0
        obtain rfl : ad101 = ad102 := (by injection e102)
        replace hx102_0 := bc_ HB.out hx102_0
        replace hx102_1 := bc_ HB.out hx102_1
        replace hx102_2 := bc_ HB.out hx102_2
        replace p102 := eq_true p102
        replace q102 := eq_true q102
        refine start_ (n := 8) (S := fun w' => w'.cell? (ad101.add ((x5_1).toNat * 3)) = some (.int .i64 ((rd_T86 l0 x5_1).f0)) ∧ w'.cell? ⟨(ad101.add ((x5_1).toNat * 3)).block, (ad101.add ((x5_1).toNat * 3)).off + 1, none⟩ = some (.string ((rd_T86 l0 x5_1).f1)) ∧ w'.cell? ⟨(ad101.add ((x5_1).toNat * 3)).block, (ad101.add ((x5_1).toNat * 3)).off + 2, none⟩ = some (.string ((rd_T86 l0 x5_1).f2))) (ds := []) #[false, false, false, false, false, false, false, false] (by kernel_rfl) rfl rfl ⟨(bc_ HB.out hw102_0 :), (bc_ HB.out hw102_1 :), (bc_ HB.out hw102_2 :)⟩ (fun hHeld => ?_); refine with_tabW laws_heldPartS.tab7 laws_heldPartS.bits7 (fun HT_ HW_ => ?_)
        generalize wr.drew = w14 at HB hx102_0 hx102_1 hx102_2 hHeld ⊢
        refine pure_ (i := 0) (N := some 21) (v := ?_) (a' := ?_) #[true, false, false, false, false, false, false, false] rfl rfl (any_of HT_.out (by kernel_rfl)) (fun _ _ _ h => h) (Or.inl ⟨by rfl, ?_⟩) ?_ ?_
        rotate_left
        ·intro w'
         go_simp
         with_reducible rfl
        rotate_left
        ·simp only [Act.put, List.setIfInBounds_toArray, List.set_cons_zero, List.set_cons_succ, i64_w, i32_w]
         rfl
        refine pure_ (i := 1) (N := some 22) (v := ?_) (a' := ?_) #[true, true, false, false, false, false, false, false] rfl rfl (any_of HT_.out (by kernel_rfl)) (fun _ _ _ h => h) (Or.inl ⟨by rfl, ?_⟩) ?_ ?_
        rotate_left
        ·intro w'
         go_simp
         with_reducible rfl
        rotate_left
        ·simp only [Act.put, List.setIfInBounds_toArray, List.set_cons_zero, List.set_cons_succ, i64_w, i32_w]
         rfl
        refine pure_ (i := 2) (N := some 23) (v := ?_) (a' := ?_) #[true, true, true, false, false, false, false, false] rfl rfl (any_of HT_.out (by kernel_rfl)) (fun _ _ _ h => h) (Or.inl ⟨by rfl, ?_⟩) ?_ ?_
        rotate_left
        ·intro w'
         go_simp
         with_reducible rfl
        rotate_left
        ·simp only [Act.put, List.setIfInBounds_toArray, List.set_cons_zero, List.set_cons_succ, i64_w, i32_w]
         rfl
        refine pure_ (i := 3) (N := some 24) (v := ?_) (a' := ?_) #[true, true, true, true, false, false, false, false] rfl rfl (any_of HT_.out (by kernel_rfl)) (fun _ _ _ h => h) (Or.inl ⟨by rfl, ?_⟩) ?_ ?_
        rotate_left
        ·intro w'
         go_simp
         with_reducible rfl
        rotate_left
        ·simp only [Act.put, List.setIfInBounds_toArray, List.set_cons_zero, List.set_cons_succ, i64_w, i32_w]
         rfl
        refine pure_ (i := 5) (N := some 26) (v := ?_) (a' := ?_) #[true, true, true, true, false, true, false, false] rfl rfl (any_of HT_.out (by kernel_rfl)) (fun _ _ _ h => h) (Or.inl ⟨by rfl, ?_⟩) ?_ ?_
        rotate_left
        ·intro w'
         go_simp
         with_reducible rfl
        rotate_left
        ·simp only [Act.put, List.setIfInBounds_toArray, List.set_cons_zero, List.set_cons_succ, i64_w, i32_w]
         rfl
        refine take_ (i := 4) (N := some 25) (v := ?_) (a' := ?_) #[true, true, true, true, true, true, false, false] rfl rfl (take_ofW HT_.out HW_.out (by kernel_rfl)) (fun _ _ _ h => h) (Or.inl ⟨by rfl, ?_⟩) hHeld ?_ ?_
        rotate_left
        ·rintro w' ⟨s0, s1, s2⟩
         go_simp
         with_reducible rfl
        rotate_left
        ·simp only [Act.put, List.setIfInBounds_toArray, List.set_cons_zero, List.set_cons_succ, i64_w, i32_w]
         rfl
        refine one_ (i := 6) (N := some 27) #[true, true, true, true, true, true, true, false] rfl rfl (one_of HT_.out (by kernel_rfl)) (by decide) (fun K hK => ?_)
        refine goes_ Try.func58 (by kernel_rfl) rfl #[.int .i64 (wrap64 (x1_1 + 1))] (by rfl) rfl rfl a11_ ?_
        with_reducible refine (laws_markText.calls k1 (wrap64 (x1_1 + 1)) t103 _ A6.out).mono ?_
        rintro e w15 ⟨rfl, hb⟩
        refine ⟨_, rfl, ?_⟩
        have n0_ := mz (bs0_ hb)
        clear HB
        have HB := n0_
        clear n0_
        (try clear hb)
        (try clear hb2)
        (try clear hk)
        (try clear hi)
        refine hK.out _ _ ⟨(bc_ HB.out hw102_0 :), (bc_ HB.out hw102_1 :), (bc_ HB.out hw102_2 :)⟩ (fun hHeld => ?_)
        clear hK K
        refine norm_ (a' := ?_) ?_ ?_
        rotate_left
        ·show Act.put _ (some 27) _ = _
         simp only [Act.put, List.setIfInBounds_toArray, List.set_cons_zero, List.set_cons_succ, i64_w, i32_w]
         rfl
        refine pure_ (i := 7) (N := some 28) (v := ?_) (a' := ?_) #[true, true, true, true, true, true, true, true] rfl rfl (any_of HT_.out (by kernel_rfl)) (fun _ _ _ h => h) (Or.inl ⟨by rfl, ?_⟩) ?_ ?_
        rotate_left
        ·intro w'
         go_simp
         with_reducible rfl
        rotate_left
        ·simp only [Act.put, List.setIfInBounds_toArray, List.set_cons_zero, List.set_cons_succ, i64_w, i32_w]
         rfl
        refine done_ (done_of HT_.out (by kernel_rfl)) ?_
        try go_wp2
        have n0_ := mz (below_drew1 HB.out)
        clear HB
        have HB := n0_
        clear n0_
        have p104 : 0 ≤ (x5_1 : Int) := of_decide_eq_true a29_
        have q104 : x5_1 < (l0.length : Int) := of_decide_eq_true a29_
        obtain ⟨ad104, e104, hx104_0, hx104_1, hx104_2⟩ := at_T86 HR0.out x5_1 p104 q104
        have hw104_2 := hx104_2
        have hw104_1 := hx104_1
        have hw104_0 := hx104_0
        obtain rfl : ad101 = ad104 := (by injection e104)
        replace hx104_0 := bc_ HB.out hx104_0
        replace hx104_1 := bc_ HB.out hx104_1
        replace hx104_2 := bc_ HB.out hx104_2
        replace p104 := eq_true p104
        replace q104 := eq_true q104
        refine start_ (n := 8) (S := fun w' => w'.cell? (ad101.add ((x5_1).toNat * 3)) = some (.int .i64 ((rd_T86 l0 x5_1).f0)) ∧ w'.cell? ⟨(ad101.add ((x5_1).toNat * 3)).block, (ad101.add ((x5_1).toNat * 3)).off + 1, none⟩ = some (.string ((rd_T86 l0 x5_1).f1)) ∧ w'.cell? ⟨(ad101.add ((x5_1).toNat * 3)).block, (ad101.add ((x5_1).toNat * 3)).off + 2, none⟩ = some (.string ((rd_T86 l0 x5_1).f2))) (ds := []) #[false, false, false, false, false, false, false, false] (by kernel_rfl) rfl rfl ⟨(bc_ HB.out hw104_0 :), (bc_ HB.out hw104_1 :), (bc_ HB.out hw104_2 :)⟩ (fun hHeld => ?_); refine with_tabW laws_heldPartS.tab10 laws_heldPartS.bits10 (fun HT_ HW_ => ?_)
        generalize w15.drew = w16 at HB hx104_0 hx104_1 hx104_2 hHeld ⊢
        refine pure_ (i := 0) (N := some 31) (v := ?_) (a' := ?_) #[true, false, false, false, false, false, false, false] rfl rfl (any_of HT_.out (by kernel_rfl)) (fun _ _ _ h => h) (Or.inl ⟨by rfl, ?_⟩) ?_ ?_
        rotate_left
        ·intro w'
         go_simp
         with_reducible rfl
        rotate_left
        ·simp only [Act.put, List.setIfInBounds_toArray, List.set_cons_zero, List.set_cons_succ, i64_w, i32_w]
         rfl
        refine pure_ (i := 1) (N := some 32) (v := ?_) (a' := ?_) #[true, true, false, false, false, false, false, false] rfl rfl (any_of HT_.out (by kernel_rfl)) (fun _ _ _ h => h) (Or.inl ⟨by rfl, ?_⟩) ?_ ?_
        rotate_left
        ·intro w'
         go_simp
         with_reducible rfl
        rotate_left
        ·simp only [Act.put, List.setIfInBounds_toArray, List.set_cons_zero, List.set_cons_succ, i64_w, i32_w]
         rfl
        refine pure_ (i := 2) (N := some 33) (v := ?_) (a' := ?_) #[true, true, true, false, false, false, false, false] rfl rfl (any_of HT_.out (by kernel_rfl)) (fun _ _ _ h => h) (Or.inl ⟨by rfl, ?_⟩) ?_ ?_
        rotate_left
        ·intro w'
         go_simp
         with_reducible rfl
        rotate_left
        ·simp only [Act.put, List.setIfInBounds_toArray, List.set_cons_zero, List.set_cons_succ, i64_w, i32_w]
         rfl
        refine pure_ (i := 3) (N := some 34) (v := ?_) (a' := ?_) #[true, true, true, true, false, false, false, false] rfl rfl (any_of HT_.out (by kernel_rfl)) (fun _ _ _ h => h) (Or.inl ⟨by rfl, ?_⟩) ?_ ?_
        rotate_left
        ·intro w'
         go_simp
         with_reducible rfl
        rotate_left
        ·simp only [Act.put, List.setIfInBounds_toArray, List.set_cons_zero, List.set_cons_succ, i64_w, i32_w]
         rfl
        refine pure_ (i := 5) (N := some 36) (v := ?_) (a' := ?_) #[true, true, true, true, false, true, false, false] rfl rfl (any_of HT_.out (by kernel_rfl)) (fun _ _ _ h => h) (Or.inl ⟨by rfl, ?_⟩) ?_ ?_
        rotate_left
        ·intro w'
         go_simp
         with_reducible rfl
        rotate_left
        ·simp only [Act.put, List.setIfInBounds_toArray, List.set_cons_zero, List.set_cons_succ, i64_w, i32_w]
         rfl
        refine take_ (i := 4) (N := some 35) (v := ?_) (a' := ?_) #[true, true, true, true, true, true, false, false] rfl rfl (take_ofW HT_.out HW_.out (by kernel_rfl)) (fun _ _ _ h => h) (Or.inl ⟨by rfl, ?_⟩) hHeld ?_ ?_
        rotate_left
        ·rintro w' ⟨s0, s1, s2⟩
         go_simp
         with_reducible rfl
        rotate_left
        ·simp only [Act.put, List.setIfInBounds_toArray, List.set_cons_zero, List.set_cons_succ, i64_w, i32_w]
         rfl
        refine one_ (i := 6) (N := some 37) #[true, true, true, true, true, true, true, false] rfl rfl (one_of HT_.out (by kernel_rfl)) (by decide) (fun K hK => ?_)
        refine goes_ Try.func58 (by kernel_rfl) rfl #[.int .i64 (wrap64 ((wrap64 (x1_1 + 1)) + 1))] (by rfl) rfl rfl a11_ ?_
        with_reducible refine (laws_markText.calls k1 (wrap64 ((wrap64 (x1_1 + 1)) + 1)) t105 _ A8.out).mono ?_
        rintro e w17 ⟨rfl, hb⟩
        refine ⟨_, rfl, ?_⟩
        have n0_ := mz (bs0_ hb)
        clear HB
        have HB := n0_
        clear n0_
        (try clear hb)
        (try clear hb2)
        (try clear hk)
        (try clear hi)
        refine hK.out _ _ ⟨(bc_ HB.out hw104_0 :), (bc_ HB.out hw104_1 :), (bc_ HB.out hw104_2 :)⟩ (fun hHeld => ?_)
        clear hK K
        refine norm_ (a' := ?_) ?_ ?_
        rotate_left
        ·show Act.put _ (some 37) _ = _
         simp only [Act.put, List.setIfInBounds_toArray, List.set_cons_zero, List.set_cons_succ, i64_w, i32_w]
         rfl
        refine pure_ (i := 7) (N := some 38) (v := ?_) (a' := ?_) #[true, true, true, true, true, true, true, true] rfl rfl (any_of HT_.out (by kernel_rfl)) (fun _ _ _ h => h) (Or.inl ⟨by rfl, ?_⟩) ?_ ?_
        rotate_left
        ·intro w'
         go_simp
         with_reducible rfl
        rotate_left
        ·simp only [Act.put, List.setIfInBounds_toArray, List.set_cons_zero, List.set_cons_succ, i64_w, i32_w]
         rfl
        refine done_ (done_of HT_.out (by kernel_rfl)) ?_
        try go_wp2
        go_ret
        exact ⟨a27_, a12_⟩
      ·rw [if_neg c7] at H
       have c7b0 : (((rd_T86 l0 x5_1).f1).toList == t103.toList) = false := beq_eq_false_iff_ne.mpr c7
       have c7b1 : (((rd_T86 l0 x5_1).f1).toList != t103.toList) = true := bne_iff_ne.mpr c7
       obtain rfl := Option.some.inj H
       have p101 : 0 ≤ (x5_1 : Int) := of_decide_eq_true a29_
       have q101 : x5_1 < (l0.length : Int) := of_decide_eq_true a29_
       obtain ⟨ad101, e101, hx101_0, hx101_1, hx101_2⟩ := at_T86 HR0.out x5_1 p101 q101
       cases e101
       replace hx101_0 := bc_ HB.out hx101_0
       replace hx101_1 := bc_ HB.out hx101_1
       replace hx101_2 := bc_ HB.out hx101_2
       replace p101 := eq_true p101
       replace q101 := eq_true q101
       try go_wp2
       have n0_ := mz (below_drew1 HB.out)
       clear HB
       have HB := n0_
       clear n0_
       have p102 : 0 ≤ (x5_1 : Int) := of_decide_eq_true a29_
       have q102 : x5_1 < (l0.length : Int) := of_decide_eq_true a29_
       obtain ⟨ad102, e102, hx102_0, hx102_1, hx102_2⟩ := at_T86 HR0.out x5_1 p102 q102
       have hw102_2 := hx102_2
       have hw102_1 := hx102_1
       have hw102_0 := hx102_0
       obtain rfl : ad101 = ad102 := (by injection e102)
       replace hx102_0 := bc_ HB.out hx102_0
       replace hx102_1 := bc_ HB.out hx102_1
       replace hx102_2 := bc_ HB.out hx102_2
       replace p102 := eq_true p102
       replace q102 := eq_true q102
       refine start_ (n := 8) (S := fun w' => w'.cell? (ad101.add ((x5_1).toNat * 3)) = some (.int .i64 ((rd_T86 l0 x5_1).f0)) ∧ w'.cell? ⟨(ad101.add ((x5_1).toNat * 3)).block, (ad101.add ((x5_1).toNat * 3)).off + 1, none⟩ = some (.string ((rd_T86 l0 x5_1).f1)) ∧ w'.cell? ⟨(ad101.add ((x5_1).toNat * 3)).block, (ad101.add ((x5_1).toNat * 3)).off + 2, none⟩ = some (.string ((rd_T86 l0 x5_1).f2))) (ds := []) #[false, false, false, false, false, false, false, false] (by kernel_rfl) rfl rfl ⟨(bc_ HB.out hw102_0 :), (bc_ HB.out hw102_1 :), (bc_ HB.out hw102_2 :)⟩ (fun hHeld => ?_); refine with_tabW laws_heldPartS.tab7 laws_heldPartS.bits7 (fun HT_ HW_ => ?_)
       generalize wr.drew = w18 at HB hx102_0 hx102_1 hx102_2 hHeld ⊢
       refine pure_ (i := 0) (N := some 21) (v := ?_) (a' := ?_) #[true, false, false, false, false, false, false, false] rfl rfl (any_of HT_.out (by kernel_rfl)) (fun _ _ _ h => h) (Or.inl ⟨by rfl, ?_⟩) ?_ ?_
       rotate_left
       ·intro w'
        go_simp
        with_reducible rfl
       rotate_left
       ·simp only [Act.put, List.setIfInBounds_toArray, List.set_cons_zero, List.set_cons_succ, i64_w, i32_w]
        rfl
       refine pure_ (i := 1) (N := some 22) (v := ?_) (a' := ?_) #[true, true, false, false, false, false, false, false] rfl rfl (any_of HT_.out (by kernel_rfl)) (fun _ _ _ h => h) (Or.inl ⟨by rfl, ?_⟩) ?_ ?_
       rotate_left
       ·intro w'
        go_simp
        with_reducible rfl
       rotate_left
       ·simp only [Act.put, List.setIfInBounds_toArray, List.set_cons_zero, List.set_cons_succ, i64_w, i32_w]
        rfl
       refine pure_ (i := 2) (N := some 23) (v := ?_) (a' := ?_) #[true, true, true, false, false, false, false, false] rfl rfl (any_of HT_.out (by kernel_rfl)) (fun _ _ _ h => h) (Or.inl ⟨by rfl, ?_⟩) ?_ ?_
       rotate_left
       ·intro w'
        go_simp
        with_reducible rfl
       rotate_left
       ·simp only [Act.put, List.setIfInBounds_toArray, List.set_cons_zero, List.set_cons_succ, i64_w, i32_w]
        rfl
       refine pure_ (i := 3) (N := some 24) (v := ?_) (a' := ?_) #[true, true, true, true, false, false, false, false] rfl rfl (any_of HT_.out (by kernel_rfl)) (fun _ _ _ h => h) (Or.inl ⟨by rfl, ?_⟩) ?_ ?_
       rotate_left
       ·intro w'
        go_simp
        with_reducible rfl
       rotate_left
       ·simp only [Act.put, List.setIfInBounds_toArray, List.set_cons_zero, List.set_cons_succ, i64_w, i32_w]
        rfl
       refine pure_ (i := 5) (N := some 26) (v := ?_) (a' := ?_) #[true, true, true, true, false, true, false, false] rfl rfl (any_of HT_.out (by kernel_rfl)) (fun _ _ _ h => h) (Or.inl ⟨by rfl, ?_⟩) ?_ ?_
       rotate_left
       ·intro w'
        go_simp
        with_reducible rfl
       rotate_left
       ·simp only [Act.put, List.setIfInBounds_toArray, List.set_cons_zero, List.set_cons_succ, i64_w, i32_w]
        rfl
       refine take_ (i := 4) (N := some 25) (v := ?_) (a' := ?_) #[true, true, true, true, true, true, false, false] rfl rfl (take_ofW HT_.out HW_.out (by kernel_rfl)) (fun _ _ _ h => h) (Or.inl ⟨by rfl, ?_⟩) hHeld ?_ ?_
       rotate_left
       ·rintro w' ⟨s0, s1, s2⟩
        go_simp
        with_reducible rfl
       rotate_left
       ·simp only [Act.put, List.setIfInBounds_toArray, List.set_cons_zero, List.set_cons_succ, i64_w, i32_w]
        rfl
       refine one_ (i := 6) (N := some 27) #[true, true, true, true, true, true, true, false] rfl rfl (one_of HT_.out (by kernel_rfl)) (by decide) (fun K hK => ?_)
       refine goes_ Try.func58 (by kernel_rfl) rfl #[.int .i64 (wrap64 (x1_1 + 1))] (by rfl) rfl rfl a11_ ?_
       with_reducible refine (laws_markText.calls k1 (wrap64 (x1_1 + 1)) t103 _ A6.out).mono ?_
       rintro e w19 ⟨rfl, hb⟩
       refine ⟨_, rfl, ?_⟩
       have n0_ := mz (bs0_ hb)
       clear HB
       have HB := n0_
       clear n0_
       (try clear hb)
       (try clear hb2)
       (try clear hk)
       (try clear hi)
       refine hK.out _ _ ⟨(bc_ HB.out hw102_0 :), (bc_ HB.out hw102_1 :), (bc_ HB.out hw102_2 :)⟩ (fun hHeld => ?_)
       clear hK K
       refine norm_ (a' := ?_) ?_ ?_
       rotate_left
       ·show Act.put _ (some 27) _ = _
        simp only [Act.put, List.setIfInBounds_toArray, List.set_cons_zero, List.set_cons_succ, i64_w, i32_w]
        rfl
       refine pure_ (i := 7) (N := some 28) (v := ?_) (a' := ?_) #[true, true, true, true, true, true, true, true] rfl rfl (any_of HT_.out (by kernel_rfl)) (fun _ _ _ h => h) (Or.inl ⟨by rfl, ?_⟩) ?_ ?_
       rotate_left
       ·intro w'
        go_simp
        with_reducible rfl
       rotate_left
       ·simp only [Act.put, List.setIfInBounds_toArray, List.set_cons_zero, List.set_cons_succ, i64_w, i32_w]
        rfl
       refine done_ (done_of HT_.out (by kernel_rfl)) ?_
       try go_wp2
       go_ret
       exact ⟨a27_, a12_⟩
     ·rw [if_neg c5] at H
      have c5b0 : (((rd_T86 l0 x5_1).f0) == x1_1) = false := beq_eq_false_iff_ne.mpr c5
      have c5b1 : (((rd_T86 l0 x5_1).f0) != x1_1) = true := bne_iff_ne.mpr c5
      obtain rfl := Option.some.inj H
      have p101 : 0 ≤ (x5_1 : Int) := of_decide_eq_true a29_
      have q101 : x5_1 < (l0.length : Int) := of_decide_eq_true a29_
      obtain ⟨ad101, e101, hx101_0, hx101_1, hx101_2⟩ := at_T86 HR0.out x5_1 p101 q101
      cases e101
      replace hx101_0 := bc_ HB.out hx101_0
      replace hx101_1 := bc_ HB.out hx101_1
      replace hx101_2 := bc_ HB.out hx101_2
      replace p101 := eq_true p101
      replace q101 := eq_true q101
      go_wp2
      go_ret
      exact ⟨a27_, a12_⟩
    ·rw [if_neg c4] at H
     exact absurd H (by simp)
   ·rw [if_neg c3] at H
    have c3b0 : decide (x5_1 < (l0.length : Int)) = false := decide_eq_false c3
    clear c3
    obtain rfl := Option.some.inj H
    go_wp2
    go_ret
    exact ⟨a27_, a12_⟩
end
section
attribute [local go_sem] max2_int min2_int max_two min_two max_three min_three max_four min_four

end
noncomputable def markP (n : Int) : List Part → List Part
 | [] => []
 | _ :: l => ⟨n, mtext (n + 1), mtext (n + 2)⟩ :: markP (n + 3) l
theorem markP_length (l : List Part) : ∀ n, (markP n l).length = l.length := by
 induction l with
 | nil => intro n; rfl
 | cons p l ih => intro n; simp [markP, ih]
theorem markP_get (l : List Part) : ∀ (n : Int) (i : Nat) (h : i < (markP n l).length), (markP n l)[i] = ⟨n + 3 * i, mtext (n + 3 * i + 1), mtext (n + 3 * i + 2)⟩ := by
 induction l with
 | nil => intro n i h; simp [markP] at h
 | cons p l ih =>
  intro n i h
  cases i with
  | zero => simp [markP]
  | succ i =>
   simp only [markP, List.getElem_cons_succ, ih]
   rw [show n + 3 + 3 * (i : Int) = n + 3 * ((i + 1 : Nat) : Int) by omega]
theorem markPartS_loop (n : Int) (h0 : 0 ≤ n) (d : Nat) : ∀ (i : Nat) (l : List Part), i + d = l.length → n + 3 * l.length ≤ 4000000000000000 → l.take i = (markP n l).take i →
  Ev (fun k => laws_markPartS.l0 k l (n + 3 * (i : Int)) (i : Int)) (n + 3 * (l.length : Int), markP n l) := by
 induction d with
 | zero =>
  intro i l h hb ht
  refine Ev.succ ?_
  simp only [laws_markPartS.l0, if_neg (show ¬ ((i : Int) < (l.length : Int)) by omega)]
  refine ev_eq (Ev.now _) ?_
  rw [List.take_of_length_le (by omega), List.take_of_length_le (by rw [markP_length]; omega)] at ht
  rw [← ht, show (i : Int) = (l.length : Int) by omega]
 | succ d ih =>
  intro i l h hb ht
  have hi : i < l.length := by omega
  refine Ev.succ ?_
  simp only [laws_markPartS.l0, if_pos (show ((i : Int) < (l.length : Int)) by omega), if_pos (show (0 : Int) ≤ i by omega), Option.bind_some, Int.toNat_natCast, rd_part l i hi, w64 (show -9223372036854775808 ≤ n + 3 * (i : Int) + 1 by omega) (by omega), w64 (show -9223372036854775808 ≤ n + 3 * (i : Int) + 1 + 1 by omega) (by omega), w64 (show -9223372036854775808 ≤ n + 3 * (i : Int) + 1 + 1 + 1 by omega) (by omega), w64 (show -9223372036854775808 ≤ (i : Int) + 1 by omega) (by omega)]
  refine Ev.bind (mtext_ev (n + 3 * (i : Int) + 1) (by omega)) ?_
  rw [rd_part _ i (by simp; omega)]
  refine Ev.bind (mtext_ev (n + 3 * (i : Int) + 1 + 1) (by omega)) ?_
  rw [rd_part _ i (by simp; omega)]
  have := ih (i + 1) (l.set i ⟨n + 3 * (i : Int), mtext (n + 3 * (i : Int) + 1), mtext (n + 3 * (i : Int) + 2)⟩) (by simp; omega) (by simpa using hb) ?_
  ·simp only [List.getElem_set_self, List.set_set, List.length_set] at this ⊢
   rw [show n + 3 * (i : Int) + 1 + 1 + 1 = n + 3 * ((i + 1 : Nat) : Int) by omega, show (i : Int) + 1 = ((i + 1 : Nat) : Int) by omega, show n + 3 * (i : Int) + 1 + 1 = n + 3 * (i : Int) + 2 by omega]
   refine ev_eq this ?_
   have e : ∀ (a b : List Part), a.length = b.length → markP n a = markP n b := by
    intro a b hab
    apply List.ext_getElem
    ·rw [markP_length, markP_length, hab]
    ·intro j h1 h2; rw [markP_get, markP_get]
   rw [e (l.set i _) l (by simp)]
  ·have e : ∀ (a b : List Part), a.length = b.length → markP n a = markP n b := by
    intro a b hab
    apply List.ext_getElem
    ·rw [markP_length, markP_length, hab]
    ·intro j h1 h2; rw [markP_get, markP_get]
   rw [e (l.set i _) l (by simp), List.take_succ_eq_append_getElem (by simp; omega), List.take_succ_eq_append_getElem (by rw [markP_length]; omega), List.take_set_of_le (by omega), ht, markP_get]
   simp
theorem markPartS_ev (l : List Part) (n : Int) (h0 : 0 ≤ n) (hb : n + 3 * l.length ≤ 4000000000000000) : Ev (fun k => laws_markPartS.f k l n) (n + 3 * (l.length : Int), markP n l) := by
 have := markPartS_loop n h0 l.length 0 l (by omega) hb (by simp)
 simpa [laws_markPartS.f] using this
theorem heldPartS_loop (n : Int) (h0 : 0 ≤ n) (l : List Part) (hb : n + 3 * l.length ≤ 4000000000000000) (d : Nat) : ∀ (i : Nat), i + d = l.length →
  Ev (fun k => laws_heldPartS.l0 k (markP n l) (n + 3 * (i : Int)) (i : Int)) (n + 3 * (l.length : Int)) := by
 induction d with
 | zero =>
  intro i h
  refine Ev.succ ?_
  simp only [laws_heldPartS.l0, markP_length, if_neg (show ¬ ((i : Int) < (l.length : Int)) by omega)]
  refine ev_eq (Ev.now _) ?_
  rw [show (i : Int) = (l.length : Int) by omega]
 | succ d ih =>
  intro i h
  refine Ev.succ ?_
  have hi : i < (markP n l).length := by rw [markP_length]; omega
  simp only [laws_heldPartS.l0, markP_length, if_pos (show ((i : Int) < (l.length : Int)) by omega), if_pos (show (0 : Int) ≤ i by omega), rd_part (markP n l) i hi, markP_get, if_true, w64 (show -9223372036854775808 ≤ n + 3 * (i : Int) + 1 by omega) (by omega), w64 (show -9223372036854775808 ≤ n + 3 * (i : Int) + 1 + 1 by omega) (by omega), w64 (show -9223372036854775808 ≤ n + 3 * (i : Int) + 1 + 1 + 1 by omega) (by omega), w64 (show -9223372036854775808 ≤ (i : Int) + 1 by omega) (by omega)]
  refine Ev.bind (mtext_ev (n + 3 * (i : Int) + 1) (by omega)) ?_
  simp only [if_true]
  refine Ev.bind (mtext_ev (n + 3 * (i : Int) + 1 + 1) (by omega)) ?_
  rw [show n + 3 * (i : Int) + 1 + 1 = n + 3 * (i : Int) + 2 by omega]
  simp only [if_true]
  rw [show n + 3 * (i : Int) + 2 + 1 = n + 3 * ((i + 1 : Nat) : Int) by omega, show (i : Int) + 1 = ((i + 1 : Nat) : Int) by omega]
  exact ih (i + 1) (by omega)
theorem heldPartS_ev (n : Int) (l : List Part) (h0 : 0 ≤ n) (hb : n + 3 * l.length ≤ 4000000000000000) : Ev (fun k => laws_heldPartS.f k (markP n l) n) (n + 3 * (l.length : Int)) := by
 have := heldPartS_loop n h0 l hb l.length 0 (by omega)
 simpa [laws_heldPartS.f] using this
set_option maxHeartbeats 8000000 in
set_option maxRecDepth 100000 in
theorem eqClient_walk (i : Int) (t : ByteArray) (v q : Int) (b : Bool) (s5 s6 : List (S86)) (d : Bool) (A5 A6 B5 B6 : Option Addr) (c5 c6 e5 e6 : Nat) (w : World) (h1 : Kd.C k86 w A5 s5.length s5) (g1 : s5.length ≤ c5) (h2 : Kd.C k86 w A6 s6.length s6) (g2 : s6.length ≤ c6) (h3 : Kd.C k86 w B5 s5.length s5) (g3 : s5.length ≤ e5) (h4 : Kd.C k86 w B6 s6.length s6) (g4 : s6.length ≤ e6) (hs5 : s5.length ≤ maxLen) (hs6 : s6.length ≤ maxLen) :
  Calls Try.prog 23 #[.agg #[.int .i64 i, .string t, .int .i64 v, .int .i64 q, .bool b, .slice A5 s5.length c5, .slice A6 s6.length c6, .bool d], .agg #[.int .i64 i, .string t, .int .i64 v, .int .i64 q, .bool b, .slice B5 s5.length e5, .slice B6 s6.length e6, .bool d]] w fun e w' => e = .returned (.bool true) ∧ Below w.heap.size w w' := by
 obtain ⟨K5, hK5⟩ := Ev.rounds (eqPartS_ev s5 hs5)
 obtain ⟨K6, hK6⟩ := Ev.rounds (eqPartS_ev s6 hs6)
 have H1 := mz h1
 have G1 := mz g1
 have H2 := mz h2
 have G2 := mz g2
 have H3 := mz h3
 have G3 := mz g3
 have H4 := mz h4
 have G4 := mz g4
 have HK5 := mz hK5
 have HK6 := mz hK6
 clear h1 g1 h2 g2 h3 g3 h4 g4 hs5 hs6 hK5 hK6
 have hib : (i != i) = false := by simp
 have htb : (t.toList != t.toList) = false := by simp
 have hbb : (b != b) = false := by simp
 have hdd : (d != d) = false := by simp
 have hvb : (v != v) = false := by simp
 have hqb : (q != q) = false := by simp
 go_enter Try.func23, Try.ntmps23
 go_wp2_with (first | ((with_reducible refine gate_dst (N := 2) rfl ?_); refine bx 2 #[.int .i64 i, .string t, .int .i64 v, .int .i64 q, .bool b, .slice A5 s5.length c5, .slice A6 s6.length c6, .bool d] 45 ?_; intro ga hg w1 hbox hb; have HB1 := mz hb; have BA := mz hbox; clear hg hbox hb) | ((with_reducible refine gate_dst (N := 3) rfl ?_); refine bx 3 #[.int .i64 i, .string t, .int .i64 v, .int .i64 q, .bool b, .slice B5 s5.length e5, .slice B6 s6.length e6, .bool d] 45 ?_; intro gb hg w2 hbox hb; have HB2 := mz (below_step HB1.out hb); have BB := mz hbox; have BA2 := mz (blk_below BA.out hb); obtain ⟨x0, x1, x2, x3, x4, x5, x6, x7⟩ := cells8 BA2.out; obtain ⟨y0, y1, y2, y3, y4, y5, y6, y7⟩ := cells8 BB.out; clear hg hbox hb))
 refine (laws_eqPartS.calls K5 A5 c5 s5 B5 e5 s5 true _ (Kd.C_below H1.out HB2.out) G1.out (Kd.C_below H3.out HB2.out) G3.out HK5.out).mono ?_; rintro e w3 ⟨rfl, hb⟩; have HB3 := mz (below_step HB2.out hb); have BA3 := mz (blk_below BA2.out hb); have BB3 := mz (blk_below BB.out hb); clear hb x0 x1 x2 x3 x4 x5 x6 x7 y0 y1 y2 y3 y4 y5 y6 y7; obtain ⟨x0, x1, x2, x3, x4, x5, x6, x7⟩ := cells8 BA3.out; obtain ⟨y0, y1, y2, y3, y4, y5, y6, y7⟩ := cells8 BB3.out; go_wp2_with fail
 refine (laws_eqPartS.calls K6 A6 c6 s6 B6 e6 s6 true _ (Kd.C_below H2.out HB3.out) G2.out (Kd.C_below H4.out HB3.out) G4.out HK6.out).mono ?_; rintro e w4 ⟨rfl, hb⟩; have HB4 := mz (below_step HB3.out hb); have BA4 := mz (blk_below BA3.out hb); have BB4 := mz (blk_below BB3.out hb); clear hb x0 x1 x2 x3 x4 x5 x6 x7 y0 y1 y2 y3 y4 y5 y6 y7; obtain ⟨x0, x1, x2, x3, x4, x5, x6, x7⟩ := cells8 BA4.out; obtain ⟨y0, y1, y2, y3, y4, y5, y6, y7⟩ := cells8 BB4.out; go_wp2_with fail
 go_ret
 exact ⟨rfl, HB4.out⟩

def sameP (p q : S86) : Bool := decide (p.f0 = q.f0) && (p.f1.toList == q.f1.toList) && (p.f2.toList == q.f2.toList)
def samePL : List (S86) → List (S86) → Bool
 | [], [] => true
 | p :: l, q :: r => sameP p q && samePL l r
 | _, _ => false
theorem sameP_eq {p q : S86} (h : sameP p q = true) : p = q := by
 simp only [sameP, Bool.and_eq_true, decide_eq_true_eq, beq_iff_eq] at h
 obtain ⟨⟨h1, h2⟩, h3⟩ := h
 have h2 := ba_ext h2
 have h3 := ba_ext h3
 cases p; cases q; simp_all
theorem samePL_eq : ∀ {l r : List (S86)}, samePL l r = true → l = r
 | [], [], _ => rfl
 | p :: l, q :: r, h => by
  simp only [samePL, Bool.and_eq_true] at h
  rw [sameP_eq h.1, samePL_eq h.2]
 | [], _ :: _, h => by simp [samePL] at h
 | _ :: _, [], h => by simp [samePL] at h
theorem samePL_refl : ∀ l : List (S86), samePL l l = true
 | [] => rfl
 | p :: l => by simp [samePL, sameP, samePL_refl l]
def laws_eqClient.f (a0_0 : Int) (a0_1 : ByteArray) (a0_2 : Int) (a0_3 : Int) (a0_4 : Bool) (l0_5 : List (S86)) (l0_6 : List (S86)) (a0_7 : Bool) (a1_0 : Int) (a1_1 : ByteArray) (a1_2 : Int) (a1_3 : Int) (a1_4 : Bool) (l1_5 : List (S86)) (l1_6 : List (S86)) (a1_7 : Bool) : Option (Bool) := if a0_0 = a1_0 ∧ a0_1.toList = a1_1.toList ∧ a0_2 = a1_2 ∧ a0_3 = a1_3 ∧ a0_4 = a1_4 ∧ samePL l0_5 l1_5 = true ∧ samePL l0_6 l1_6 = true ∧ a0_7 = a1_7 ∧ l0_5.length ≤ maxLen ∧ l0_6.length ≤ maxLen then some true else none
theorem laws_eqClient.calls (a0_0 : Int) (a0_1 : ByteArray) (a0_2 : Int) (a0_3 : Int) (a0_4 : Bool) (A0_5 : Option Addr) (c0_5 : Nat) (l0_5 : List (S86)) (A0_6 : Option Addr) (c0_6 : Nat) (l0_6 : List (S86)) (a0_7 : Bool) (a1_0 : Int) (a1_1 : ByteArray) (a1_2 : Int) (a1_3 : Int) (a1_4 : Bool) (A1_5 : Option Addr) (c1_5 : Nat) (l1_5 : List (S86)) (A1_6 : Option Addr) (c1_6 : Nat) (l1_6 : List (S86)) (a1_7 : Bool) (r : Bool) (w : World) (hr0_5 : Kd.C k86 w A0_5 l0_5.length l0_5) (hc0_5 : l0_5.length ≤ c0_5) (hr0_6 : Kd.C k86 w A0_6 l0_6.length l0_6) (hc0_6 : l0_6.length ≤ c0_6) (hr1_5 : Kd.C k86 w A1_5 l1_5.length l1_5) (hc1_5 : l1_5.length ≤ c1_5) (hr1_6 : Kd.C k86 w A1_6 l1_6.length l1_6) (hc1_6 : l1_6.length ≤ c1_6) (h : laws_eqClient.f a0_0 a0_1 a0_2 a0_3 a0_4 l0_5 l0_6 a0_7 a1_0 a1_1 a1_2 a1_3 a1_4 l1_5 l1_6 a1_7 = some r) :
  Calls Try.prog 23 #[.agg #[.int .i64 a0_0, .string a0_1, .int .i64 a0_2, .int .i64 a0_3, .bool a0_4, .slice A0_5 l0_5.length c0_5, .slice A0_6 l0_6.length c0_6, .bool a0_7], .agg #[.int .i64 a1_0, .string a1_1, .int .i64 a1_2, .int .i64 a1_3, .bool a1_4, .slice A1_5 l1_5.length c1_5, .slice A1_6 l1_6.length c1_6, .bool a1_7]] w fun e w' => e = .returned (.bool r) ∧ Below w.heap.size w w' := by
 unfold laws_eqClient.f at h
 split at h
 ·rename_i hs
  obtain ⟨rfl, ht, rfl, rfl, rfl, e5, e6, rfl, h5, h6⟩ := hs
  obtain rfl := ba_ext ht
  obtain rfl := samePL_eq e5
  obtain rfl := samePL_eq e6
  obtain rfl := Option.some.inj h
  exact eqClient_walk _ _ _ _ _ _ _ _ _ _ _ _ _ _ _ _ w hr0_5 hc0_5 hr0_6 hc0_6 hr1_5 hc1_5 hr1_6 hc1_6 h5 h6
 ·exact absurd h (by simp)
theorem eqClient_val (y : Client) (h5 : y.f5.length ≤ maxLen) (h6 : y.f6.length ≤ maxLen) : laws_eqClient.f y.f0 y.f1 y.f2 y.f3 y.f4 y.f5 y.f6 y.f7 y.f0 y.f1 y.f2 y.f3 y.f4 y.f5 y.f6 y.f7 = some true := by
 unfold laws_eqClient.f; rw [if_pos ⟨rfl, rfl, rfl, rfl, rfl, samePL_refl _, samePL_refl _, rfl, h5, h6⟩]
section
attribute [local go_sem] max2_int min2_int max_two min_two max_three min_three max_four min_four
def laws_szClient.f (k : Nat) (a0_0 : Int) (a0_1 : ByteArray) (a0_2 : Int) (a0_3 : Int) (a0_4 : Bool) (l0_5 : List (S78)) (l0_6 : List (S78)) (a0_7 : Bool) (a1 : Int) : Option (Int) := if (wrap64 (a1 - (a0_1.size : Int))) < 0 then (some (-1)) else ((laws_szPartS.f k l0_5 (wrap64 (a1 - (a0_1.size : Int)))).bind fun t102 => (if t102 < 0 then (some (-1)) else ((laws_szPartS.f k l0_6 t102).bind fun t103 => (if t103 < 0 then (some (-1)) else (some t103)))))
set_option maxHeartbeats 8000000 in
set_option maxRecDepth 100000 in
theorem laws_szClient.calls (k : Nat) (a0_0 : Int) (a0_1 : ByteArray) (a0_2 : Int) (a0_3 : Int) (a0_4 : Bool) (A0_5 : Option Addr) (c0_5 : Nat) (l0_5 : List (S78)) (A0_6 : Option Addr) (c0_6 : Nat) (l0_6 : List (S78)) (a0_7 : Bool) (a1 : Int) (r : Int) (w : World) (hr0_5 : Kd.C k78 w A0_5 l0_5.length l0_5) (hc0_5 : l0_5.length ≤ c0_5) (hr0_6 : Kd.C k78 w A0_6 l0_6.length l0_6) (hc0_6 : l0_6.length ≤ c0_6) (h : laws_szClient.f k a0_0 a0_1 a0_2 a0_3 a0_4 l0_5 l0_6 a0_7 a1 = some r) :
  Calls Try.prog 19 #[.agg #[.int .i64 a0_0, .string a0_1, .int .i64 a0_2, .int .i64 a0_3, .bool a0_4, .slice A0_5 l0_5.length c0_5, .slice A0_6 l0_6.length c0_6, .bool a0_7], .int .i64 a1] w fun e w' => e = .returned (.int .i64 r) ∧ Below w.heap.size w w' := by
 have hu42 := Try.underlying42
 have HR0_5 := mz hr0_5
 have HC0_5 := mz hc0_5
 clear hr0_5 hc0_5
 have HR0_6 := mz hr0_6
 have HC0_6 := mz hc0_6
 clear hr0_6 hc0_6
 have HB := mz (Below.refl w.heap.size w)
 have H : (if (wrap64 (a1 - (a0_1.size : Int))) < 0 then (some (-1)) else ((laws_szPartS.f k l0_5 (wrap64 (a1 - (a0_1.size : Int)))).bind fun t102 => (if t102 < 0 then (some (-1)) else ((laws_szPartS.f k l0_6 t102).bind fun t103 => (if t103 < 0 then (some (-1)) else (some t103)))))) = some r := h
 clear h
 by_cases c3 : (wrap64 (a1 - (a0_1.size : Int))) < 0
 ·rw [if_pos c3] at H
  have c3b0 : decide ((wrap64 (a1 - (a0_1.size : Int))) < 0) = true := decide_eq_true c3
  clear c3
  obtain rfl := Option.some.inj H
  go_enter Try.func19, Try.ntmps19
  go_wp2_with (first | ((with_reducible refine gate_dst (N := 2) rfl ?_); refine bz_ 2 #[.int .i64 a0_0, .string a0_1, .int .i64 a0_2, .int .i64 a0_3, .bool a0_4, .slice A0_5 l0_5.length c0_5, .slice A0_6 l0_6.length c0_6, .bool a0_7] 42 ?_; intro gb101 hg w4 hbox hb; have n0_ := mz (bs0_ hb); have n1_ := mz (hbox); have n2_ := mz ((by rw [hg]; exact bz1_ : w.heap.size ≤ gb101)); have n3_ := mz ((by rw [hg]; exact bz1_ : w.heap.size ≤ gb101)); clear HB; have HB := n0_; have BK101 := n1_; have GW101 := n2_; have GE101 := n3_; clear n0_ n1_ n2_ n3_; clear hb hbox hg; have hcz5_0 := bk_ BK101.out 0 (.int .i64 a0_0); have hcz5_1 := bk_ BK101.out 1 (.string a0_1); have hcz5_2 := bk_ BK101.out 2 (.int .i64 a0_2); have hcz5_3 := bk_ BK101.out 3 (.int .i64 a0_3); have hcz5_4 := bk_ BK101.out 4 (.bool a0_4); have hcz5_5 := bk_ BK101.out 5 (.slice A0_5 l0_5.length c0_5); have hcz5_6 := bk_ BK101.out 6 (.slice A0_6 l0_6.length c0_6); have hcz5_7 := bk_ BK101.out 7 (.bool a0_7); have hfz5_0 := blk_frozen BK101.out 0; have hfz5_1 := blk_frozen BK101.out 1; have hfz5_2 := blk_frozen BK101.out 2; have hfz5_3 := blk_frozen BK101.out 3; have hfz5_4 := blk_frozen BK101.out 4; have hfz5_5 := blk_frozen BK101.out 5; have hfz5_6 := blk_frozen BK101.out 6; have hfz5_7 := blk_frozen BK101.out 7))
  go_ret
  exact ⟨a27_, a8_⟩
 ·rw [if_neg c3] at H
  have c3b0 : decide ((wrap64 (a1 - (a0_1.size : Int))) < 0) = false := decide_eq_false c3
  clear c3
  replace H := be0_ H
  obtain ⟨t102, A60, H⟩ := H
  replace H : (if t102 < 0 then (some (-1)) else ((laws_szPartS.f k l0_6 t102).bind fun t103 => (if t103 < 0 then (some (-1)) else (some t103)))) = some r := H
  have A6 := mz A60
  clear A60
  by_cases c7 : t102 < 0
  ·rw [if_pos c7] at H
   have c7b0 : decide (t102 < 0) = true := decide_eq_true c7
   clear c7
   obtain rfl := Option.some.inj H
   go_enter Try.func19, Try.ntmps19
   go_wp2_with (first | ((with_reducible refine gate_dst (N := 2) rfl ?_); refine bz_ 2 #[.int .i64 a0_0, .string a0_1, .int .i64 a0_2, .int .i64 a0_3, .bool a0_4, .slice A0_5 l0_5.length c0_5, .slice A0_6 l0_6.length c0_6, .bool a0_7] 42 ?_; intro gb101 hg w8 hbox hb; have n0_ := mz (bs0_ hb); have n1_ := mz (hbox); have n2_ := mz ((by rw [hg]; exact bz1_ : w.heap.size ≤ gb101)); have n3_ := mz ((by rw [hg]; exact bz1_ : w.heap.size ≤ gb101)); clear HB; have HB := n0_; have BK101 := n1_; have GW101 := n2_; have GE101 := n3_; clear n0_ n1_ n2_ n3_; clear hb hbox hg; have hcz9_0 := bk_ BK101.out 0 (.int .i64 a0_0); have hcz9_1 := bk_ BK101.out 1 (.string a0_1); have hcz9_2 := bk_ BK101.out 2 (.int .i64 a0_2); have hcz9_3 := bk_ BK101.out 3 (.int .i64 a0_3); have hcz9_4 := bk_ BK101.out 4 (.bool a0_4); have hcz9_5 := bk_ BK101.out 5 (.slice A0_5 l0_5.length c0_5); have hcz9_6 := bk_ BK101.out 6 (.slice A0_6 l0_6.length c0_6); have hcz9_7 := bk_ BK101.out 7 (.bool a0_7); have hfz9_0 := blk_frozen BK101.out 0; have hfz9_1 := blk_frozen BK101.out 1; have hfz9_2 := blk_frozen BK101.out 2; have hfz9_3 := blk_frozen BK101.out 3; have hfz9_4 := blk_frozen BK101.out 4; have hfz9_5 := blk_frozen BK101.out 5; have hfz9_6 := blk_frozen BK101.out 6; have hfz9_7 := blk_frozen BK101.out 7) | ((with_reducible refine gate_callee (f := 9) rfl ?_); refine goesL_ (some 15) rfl rfl Try.func9 (by kernel_rfl) rfl #[.slice A0_5 l0_5.length c0_5, .int .i64 (wrap64 (a1 - (a0_1.size : Int)))] rfl a11_ ?_; (with_reducible refine (laws_szPartS.calls k _ _ l0_5 (wrap64 (a1 - (a0_1.size : Int))) t102 _ ?side1 ?side2 A6.out).mono ?_); (case side1 => repeat (first | exact (Kd.C_below HR0_5.out HB.out) | (with_reducible refine Kd.C_alloc ?_ _) | (with_reducible refine Kd.C_drewN ?_ _) | (with_reducible refine Kd.C_drew ?_))); (case side2 => exact HC0_5.out); rintro e w10 ⟨rfl, hb⟩; refine ⟨_, rfl, ?_⟩; have n0_ := mz (blk_below (g := gb101) (o := .cells #[.int .i64 a0_0, .string a0_1, .int .i64 a0_2, .int .i64 a0_3, .bool a0_4, .slice A0_5 l0_5.length c0_5, .slice A0_6 l0_6.length c0_6, .bool a0_7] 42 (0, 0)) a14_ hb); have n1_ := mz (bs2_ hb); clear BK101; clear HB; have BK101 := n0_; have HB := n1_; clear n0_ n1_; (try clear hb); (try clear hb2); (try clear hk); (try clear hi)))
   go_ret
   exact ⟨a27_, a8_⟩
  ·rw [if_neg c7] at H
   have c7b0 : decide (t102 < 0) = false := decide_eq_false c7
   clear c7
   replace H := be0_ H
   obtain ⟨t103, A110, H⟩ := H
   replace H : (if t103 < 0 then (some (-1)) else (some t103)) = some r := H
   have A11 := mz A110
   clear A110
   by_cases c12 : t103 < 0
   ·rw [if_pos c12] at H
    have c12b0 : decide (t103 < 0) = true := decide_eq_true c12
    clear c12
    obtain rfl := Option.some.inj H
    go_enter Try.func19, Try.ntmps19
    go_wp2_with (first | ((with_reducible refine gate_dst (N := 2) rfl ?_); refine bz_ 2 #[.int .i64 a0_0, .string a0_1, .int .i64 a0_2, .int .i64 a0_3, .bool a0_4, .slice A0_5 l0_5.length c0_5, .slice A0_6 l0_6.length c0_6, .bool a0_7] 42 ?_; intro gb101 hg w13 hbox hb; have n0_ := mz (bs0_ hb); have n1_ := mz (hbox); have n2_ := mz ((by rw [hg]; exact bz1_ : w.heap.size ≤ gb101)); have n3_ := mz ((by rw [hg]; exact bz1_ : w.heap.size ≤ gb101)); clear HB; have HB := n0_; have BK101 := n1_; have GW101 := n2_; have GE101 := n3_; clear n0_ n1_ n2_ n3_; clear hb hbox hg; have hcz14_0 := bk_ BK101.out 0 (.int .i64 a0_0); have hcz14_1 := bk_ BK101.out 1 (.string a0_1); have hcz14_2 := bk_ BK101.out 2 (.int .i64 a0_2); have hcz14_3 := bk_ BK101.out 3 (.int .i64 a0_3); have hcz14_4 := bk_ BK101.out 4 (.bool a0_4); have hcz14_5 := bk_ BK101.out 5 (.slice A0_5 l0_5.length c0_5); have hcz14_6 := bk_ BK101.out 6 (.slice A0_6 l0_6.length c0_6); have hcz14_7 := bk_ BK101.out 7 (.bool a0_7); have hfz14_0 := blk_frozen BK101.out 0; have hfz14_1 := blk_frozen BK101.out 1; have hfz14_2 := blk_frozen BK101.out 2; have hfz14_3 := blk_frozen BK101.out 3; have hfz14_4 := blk_frozen BK101.out 4; have hfz14_5 := blk_frozen BK101.out 5; have hfz14_6 := blk_frozen BK101.out 6; have hfz14_7 := blk_frozen BK101.out 7) | ((with_reducible refine gate_callee (f := 9) rfl ?_); refine goesL_ (some 15) rfl rfl Try.func9 (by kernel_rfl) rfl #[.slice A0_5 l0_5.length c0_5, .int .i64 (wrap64 (a1 - (a0_1.size : Int)))] rfl a11_ ?_; (with_reducible refine (laws_szPartS.calls k _ _ l0_5 (wrap64 (a1 - (a0_1.size : Int))) t102 _ ?side1 ?side2 A6.out).mono ?_); (case side1 => repeat (first | exact (Kd.C_below HR0_5.out HB.out) | (with_reducible refine Kd.C_alloc ?_ _) | (with_reducible refine Kd.C_drewN ?_ _) | (with_reducible refine Kd.C_drew ?_))); (case side2 => exact HC0_5.out); rintro e w15 ⟨rfl, hb⟩; refine ⟨_, rfl, ?_⟩; have n0_ := mz (blk_below (g := gb101) (o := .cells #[.int .i64 a0_0, .string a0_1, .int .i64 a0_2, .int .i64 a0_3, .bool a0_4, .slice A0_5 l0_5.length c0_5, .slice A0_6 l0_6.length c0_6, .bool a0_7] 42 (0, 0)) a14_ hb); have n1_ := mz (bs2_ hb); clear BK101; clear HB; have BK101 := n0_; have HB := n1_; clear n0_ n1_; (try clear hb); (try clear hb2); (try clear hk); (try clear hi); have hcz16_0 := bk_ BK101.out 0 (.int .i64 a0_0); have hcz16_1 := bk_ BK101.out 1 (.string a0_1); have hcz16_2 := bk_ BK101.out 2 (.int .i64 a0_2); have hcz16_3 := bk_ BK101.out 3 (.int .i64 a0_3); have hcz16_4 := bk_ BK101.out 4 (.bool a0_4); have hcz16_5 := bk_ BK101.out 5 (.slice A0_5 l0_5.length c0_5); have hcz16_6 := bk_ BK101.out 6 (.slice A0_6 l0_6.length c0_6); have hcz16_7 := bk_ BK101.out 7 (.bool a0_7); have hfz16_0 := blk_frozen BK101.out 0; have hfz16_1 := blk_frozen BK101.out 1; have hfz16_2 := blk_frozen BK101.out 2; have hfz16_3 := blk_frozen BK101.out 3; have hfz16_4 := blk_frozen BK101.out 4; have hfz16_5 := blk_frozen BK101.out 5; have hfz16_6 := blk_frozen BK101.out 6; have hfz16_7 := blk_frozen BK101.out 7) | ((with_reducible refine gate_callee (f := 9) rfl ?_); refine goesL_ (some 21) rfl rfl Try.func9 (by kernel_rfl) rfl #[.slice A0_6 l0_6.length c0_6, .int .i64 t102] rfl a11_ ?_; (with_reducible refine (laws_szPartS.calls k _ _ l0_6 t102 t103 _ ?side1 ?side2 A11.out).mono ?_); (case side1 => repeat (first | exact (Kd.C_below HR0_6.out HB.out) | (with_reducible refine Kd.C_alloc ?_ _) | (with_reducible refine Kd.C_drewN ?_ _) | (with_reducible refine Kd.C_drew ?_))); (case side2 => exact HC0_6.out); rintro e w17 ⟨rfl, hb⟩; refine ⟨_, rfl, ?_⟩; have n0_ := mz (blk_below (g := gb101) (o := .cells #[.int .i64 a0_0, .string a0_1, .int .i64 a0_2, .int .i64 a0_3, .bool a0_4, .slice A0_5 l0_5.length c0_5, .slice A0_6 l0_6.length c0_6, .bool a0_7] 42 (0, 0)) a14_ hb); have n1_ := mz (bs2_ hb); clear BK101; clear HB; have BK101 := n0_; have HB := n1_; clear n0_ n1_; (try clear hb); (try clear hb2); (try clear hk); (try clear hi)))
    go_ret
    exact ⟨a27_, a8_⟩
   ·rw [if_neg c12] at H
    have c12b0 : decide (t103 < 0) = false := decide_eq_false c12
    clear c12
    obtain rfl := Option.some.inj H
    go_enter Try.func19, Try.ntmps19
    go_wp2_with (first | ((with_reducible refine gate_dst (N := 2) rfl ?_); refine bz_ 2 #[.int .i64 a0_0, .string a0_1, .int .i64 a0_2, .int .i64 a0_3, .bool a0_4, .slice A0_5 l0_5.length c0_5, .slice A0_6 l0_6.length c0_6, .bool a0_7] 42 ?_; intro gb101 hg w18 hbox hb; have n0_ := mz (bs0_ hb); have n1_ := mz (hbox); have n2_ := mz ((by rw [hg]; exact bz1_ : w.heap.size ≤ gb101)); have n3_ := mz ((by rw [hg]; exact bz1_ : w.heap.size ≤ gb101)); clear HB; have HB := n0_; have BK101 := n1_; have GW101 := n2_; have GE101 := n3_; clear n0_ n1_ n2_ n3_; clear hb hbox hg; have hcz19_0 := bk_ BK101.out 0 (.int .i64 a0_0); have hcz19_1 := bk_ BK101.out 1 (.string a0_1); have hcz19_2 := bk_ BK101.out 2 (.int .i64 a0_2); have hcz19_3 := bk_ BK101.out 3 (.int .i64 a0_3); have hcz19_4 := bk_ BK101.out 4 (.bool a0_4); have hcz19_5 := bk_ BK101.out 5 (.slice A0_5 l0_5.length c0_5); have hcz19_6 := bk_ BK101.out 6 (.slice A0_6 l0_6.length c0_6); have hcz19_7 := bk_ BK101.out 7 (.bool a0_7); have hfz19_0 := blk_frozen BK101.out 0; have hfz19_1 := blk_frozen BK101.out 1; have hfz19_2 := blk_frozen BK101.out 2; have hfz19_3 := blk_frozen BK101.out 3; have hfz19_4 := blk_frozen BK101.out 4; have hfz19_5 := blk_frozen BK101.out 5; have hfz19_6 := blk_frozen BK101.out 6; have hfz19_7 := blk_frozen BK101.out 7) | ((with_reducible refine gate_callee (f := 9) rfl ?_); refine goesL_ (some 15) rfl rfl Try.func9 (by kernel_rfl) rfl #[.slice A0_5 l0_5.length c0_5, .int .i64 (wrap64 (a1 - (a0_1.size : Int)))] rfl a11_ ?_; (with_reducible refine (laws_szPartS.calls k _ _ l0_5 (wrap64 (a1 - (a0_1.size : Int))) t102 _ ?side1 ?side2 A6.out).mono ?_); (case side1 => repeat (first | exact (Kd.C_below HR0_5.out HB.out) | (with_reducible refine Kd.C_alloc ?_ _) | (with_reducible refine Kd.C_drewN ?_ _) | (with_reducible refine Kd.C_drew ?_))); (case side2 => exact HC0_5.out); rintro e w20 ⟨rfl, hb⟩; refine ⟨_, rfl, ?_⟩; have n0_ := mz (blk_below (g := gb101) (o := .cells #[.int .i64 a0_0, .string a0_1, .int .i64 a0_2, .int .i64 a0_3, .bool a0_4, .slice A0_5 l0_5.length c0_5, .slice A0_6 l0_6.length c0_6, .bool a0_7] 42 (0, 0)) a14_ hb); have n1_ := mz (bs2_ hb); clear BK101; clear HB; have BK101 := n0_; have HB := n1_; clear n0_ n1_; (try clear hb); (try clear hb2); (try clear hk); (try clear hi); have hcz21_0 := bk_ BK101.out 0 (.int .i64 a0_0); have hcz21_1 := bk_ BK101.out 1 (.string a0_1); have hcz21_2 := bk_ BK101.out 2 (.int .i64 a0_2); have hcz21_3 := bk_ BK101.out 3 (.int .i64 a0_3); have hcz21_4 := bk_ BK101.out 4 (.bool a0_4); have hcz21_5 := bk_ BK101.out 5 (.slice A0_5 l0_5.length c0_5); have hcz21_6 := bk_ BK101.out 6 (.slice A0_6 l0_6.length c0_6); have hcz21_7 := bk_ BK101.out 7 (.bool a0_7); have hfz21_0 := blk_frozen BK101.out 0; have hfz21_1 := blk_frozen BK101.out 1; have hfz21_2 := blk_frozen BK101.out 2; have hfz21_3 := blk_frozen BK101.out 3; have hfz21_4 := blk_frozen BK101.out 4; have hfz21_5 := blk_frozen BK101.out 5; have hfz21_6 := blk_frozen BK101.out 6; have hfz21_7 := blk_frozen BK101.out 7) | ((with_reducible refine gate_callee (f := 9) rfl ?_); refine goesL_ (some 21) rfl rfl Try.func9 (by kernel_rfl) rfl #[.slice A0_6 l0_6.length c0_6, .int .i64 t102] rfl a11_ ?_; (with_reducible refine (laws_szPartS.calls k _ _ l0_6 t102 t103 _ ?side1 ?side2 A11.out).mono ?_); (case side1 => repeat (first | exact (Kd.C_below HR0_6.out HB.out) | (with_reducible refine Kd.C_alloc ?_ _) | (with_reducible refine Kd.C_drewN ?_ _) | (with_reducible refine Kd.C_drew ?_))); (case side2 => exact HC0_6.out); rintro e w22 ⟨rfl, hb⟩; refine ⟨_, rfl, ?_⟩; have n0_ := mz (blk_below (g := gb101) (o := .cells #[.int .i64 a0_0, .string a0_1, .int .i64 a0_2, .int .i64 a0_3, .bool a0_4, .slice A0_5 l0_5.length c0_5, .slice A0_6 l0_6.length c0_6, .bool a0_7] 42 (0, 0)) a14_ hb); have n1_ := mz (bs2_ hb); clear BK101; clear HB; have BK101 := n0_; have HB := n1_; clear n0_ n1_; (try clear hb); (try clear hb2); (try clear hk); (try clear hi)))
    go_ret
    exact ⟨a27_, a8_⟩
end
section
attribute [local go_sem] max2_int min2_int max_two min_two max_three min_three max_four min_four
def laws_toClient.f (k : Nat) (a0_0 : Int) (a0_1 : ByteArray) (a0_2 : Int) (a0_3 : Int) (a0_4 : Bool) (l0_5 : List (S78)) (l0_6 : List (S78)) (a0_7 : Bool) : Option (Int × ByteArray × Int × Int × Bool × (List (S86)) × (List (S86)) × Bool) := (laws_toPartS.f k l0_5).bind fun t104 => ((laws_toPartS.f k l0_6).bind fun t107 => (some (a0_0, a0_1, a0_2, a0_3, a0_4, t104, t107, a0_7)))
set_option maxHeartbeats 8000000 in
set_option maxRecDepth 100000 in
theorem laws_toClient.calls (k : Nat) (a0_0 : Int) (a0_1 : ByteArray) (a0_2 : Int) (a0_3 : Int) (a0_4 : Bool) (A0_5 : Option Addr) (c0_5 : Nat) (l0_5 : List (S78)) (A0_6 : Option Addr) (c0_6 : Nat) (l0_6 : List (S78)) (a0_7 : Bool) (r1 : Int) (r2 : ByteArray) (r3 : Int) (r4 : Int) (r5 : Bool) (r6 : List (S86)) (r7 : List (S86)) (r8 : Bool) (w : World) (hr0_5 : Kd.C k78 w A0_5 l0_5.length l0_5) (hc0_5 : l0_5.length ≤ c0_5) (hr0_6 : Kd.C k78 w A0_6 l0_6.length l0_6) (hc0_6 : l0_6.length ≤ c0_6) (h : laws_toClient.f k a0_0 a0_1 a0_2 a0_3 a0_4 l0_5 l0_6 a0_7 = some (r1, r2, r3, r4, r5, r6, r7, r8)) :
  Calls Try.prog 21 #[.agg #[.int .i64 a0_0, .string a0_1, .int .i64 a0_2, .int .i64 a0_3, .bool a0_4, .slice A0_5 l0_5.length c0_5, .slice A0_6 l0_6.length c0_6, .bool a0_7]] w fun e w' => ∃ v5_ v6_ : Value, e = .returned (.agg #[.int .i64 r1, .string r2, .int .i64 r3, .int .i64 r4, .bool r5, v5_, v6_, .bool r8]) ∧ Kd.R k86 86 w' w.heap.size (fun k_ => some k_ ≠ (v6_ : Value).ownBlock) v5_ r6 ∧ Kd.R k86 86 w' w.heap.size (fun k_ => some k_ ≠ (v5_ : Value).ownBlock) v6_ r7 ∧ Below w.heap.size w w' := by
 have hu42 := Try.underlying42
 have hu45 := Try.underlying45
 have HR0_5 := mz hr0_5
 have HC0_5 := mz hc0_5
 clear hr0_5 hc0_5
 have HR0_6 := mz hr0_6
 have HC0_6 := mz hc0_6
 clear hr0_6 hc0_6
 have HB := mz (Below.refl w.heap.size w)
 have H : ((laws_toPartS.f k l0_5).bind fun t104 => ((laws_toPartS.f k l0_6).bind fun t107 => (some (a0_0, a0_1, a0_2, a0_3, a0_4, t104, t107, a0_7)))) = some (r1, r2, r3, r4, r5, r6, r7, r8) := h
 clear h
 replace H := be0_ H
 obtain ⟨t104, A20, H⟩ := H
 replace H : ((laws_toPartS.f k l0_6).bind fun t107 => (some (a0_0, a0_1, a0_2, a0_3, a0_4, t104, t107, a0_7))) = some (r1, r2, r3, r4, r5, r6, r7, r8) := H
 have A2 := mz A20
 clear A20
 replace H := be0_ H
 obtain ⟨t107, A30, H⟩ := H
 replace H : (some (a0_0, a0_1, a0_2, a0_3, a0_4, t104, t107, a0_7)) = some (r1, r2, r3, r4, r5, r6, r7, r8) := H
 have A3 := mz A30
 clear A30
 simp only [Option.some.injEq, Prod.mk.injEq] at H
 obtain ⟨rfl, rfl, rfl, rfl, rfl, rfl, rfl, rfl⟩ := H
 go_enter Try.func21, Try.ntmps21
 go_wp2_with (first | ((with_reducible refine gate_dst (N := 1) rfl ?_); refine bz_ 1 #[.int .i64 a0_0, .string a0_1, .int .i64 a0_2, .int .i64 a0_3, .bool a0_4, .slice A0_5 l0_5.length c0_5, .slice A0_6 l0_6.length c0_6, .bool a0_7] 42 ?_; intro gb101 hg w4 hbox hb; have n0_ := mz (bs0_ hb); have n1_ := mz (hbox); have n2_ := mz ((by rw [hg]; exact bz1_ : w.heap.size ≤ gb101)); have n3_ := mz ((by rw [hg]; exact bz1_ : w.heap.size ≤ gb101)); clear HB; have HB := n0_; have BK101 := n1_; have GW101 := n2_; have GE101 := n3_; clear n0_ n1_ n2_ n3_; clear hb hbox hg) | ((with_reducible refine gate_dst (N := 2) rfl ?_); refine bz_ 2 #[.int .i64 0, .string (⟨#[]⟩ : ByteArray), .int .i64 0, .int .i64 0, .bool false, .slice none 0 0, .slice none 0 0, .bool false] 45 ?_; intro gb102 hg w5 hbox hb; have n0_ := mz (blk_below (g := gb101) (o := .cells #[.int .i64 a0_0, .string a0_1, .int .i64 a0_2, .int .i64 a0_3, .bool a0_4, .slice A0_5 l0_5.length c0_5, .slice A0_6 l0_6.length c0_6, .bool a0_7] 42 (0, 0)) a14_ hb); have n1_ := mz (bs2_ hb); have n2_ := mz (hbox); have n3_ := mz ((by rw [hg]; exact bz5_ : w.heap.size ≤ gb102)); have n4_ := mz ((by rw [hg]; exact bz5_ : w.heap.size ≤ gb102)); have n5_ := mz ((by rw [hg]; exact Nat.ne_of_lt (blk_lt (g := gb101) (o := .cells #[.int .i64 a0_0, .string a0_1, .int .i64 a0_2, .int .i64 a0_3, .bool a0_4, .slice A0_5 l0_5.length c0_5, .slice A0_6 l0_6.length c0_6, .bool a0_7] 42 (0, 0)) a14_) : gb101 ≠ gb102)); have n6_ := mz ((by rw [hg]; exact Nat.ne_of_gt (blk_lt (g := gb101) (o := .cells #[.int .i64 a0_0, .string a0_1, .int .i64 a0_2, .int .i64 a0_3, .bool a0_4, .slice A0_5 l0_5.length c0_5, .slice A0_6 l0_6.length c0_6, .bool a0_7] 42 (0, 0)) a14_) : gb102 ≠ gb101)); clear BK101; clear HB; have BK101 := n0_; have HB := n1_; have BK102 := n2_; have GW102 := n3_; have GE102 := n4_; have NB101_102 := n5_; have NB102_101 := n6_; clear n0_ n1_ n2_ n3_ n4_ n5_ n6_; clear hb hbox hg) | ((with_reducible refine gate_dst (N := 3) rfl ?_); refine bz_ 3 #[.int .i64 0, .string (⟨#[]⟩ : ByteArray), .int .i64 0, .int .i64 0, .bool false, .slice none 0 0, .slice none 0 0, .bool false] 45 ?_; intro gb103 hg w6 hbox hb; have n0_ := mz (blk_below (g := gb101) (o := .cells #[.int .i64 a0_0, .string a0_1, .int .i64 a0_2, .int .i64 a0_3, .bool a0_4, .slice A0_5 l0_5.length c0_5, .slice A0_6 l0_6.length c0_6, .bool a0_7] 42 (0, 0)) a14_ hb); have n1_ := mz (blk_below (g := gb102) (o := .cells #[.int .i64 0, .string (⟨#[]⟩ : ByteArray), .int .i64 0, .int .i64 0, .bool false, .slice none 0 0, .slice none 0 0, .bool false] 45 (0, 0)) a15_ hb); have n2_ := mz (bs4_ hb); have n3_ := mz (hbox); have n4_ := mz ((by rw [hg]; exact bz6_ : w.heap.size ≤ gb103)); have n5_ := mz ((by rw [hg]; exact bz6_ : w.heap.size ≤ gb103)); have n6_ := mz ((by rw [hg]; exact Nat.ne_of_lt (blk_lt (g := gb101) (o := .cells #[.int .i64 a0_0, .string a0_1, .int .i64 a0_2, .int .i64 a0_3, .bool a0_4, .slice A0_5 l0_5.length c0_5, .slice A0_6 l0_6.length c0_6, .bool a0_7] 42 (0, 0)) a14_) : gb101 ≠ gb103)); have n7_ := mz ((by rw [hg]; exact Nat.ne_of_gt (blk_lt (g := gb101) (o := .cells #[.int .i64 a0_0, .string a0_1, .int .i64 a0_2, .int .i64 a0_3, .bool a0_4, .slice A0_5 l0_5.length c0_5, .slice A0_6 l0_6.length c0_6, .bool a0_7] 42 (0, 0)) a14_) : gb103 ≠ gb101)); have n8_ := mz ((by rw [hg]; exact Nat.ne_of_lt (blk_lt (g := gb102) (o := .cells #[.int .i64 0, .string (⟨#[]⟩ : ByteArray), .int .i64 0, .int .i64 0, .bool false, .slice none 0 0, .slice none 0 0, .bool false] 45 (0, 0)) a15_) : gb102 ≠ gb103)); have n9_ := mz ((by rw [hg]; exact Nat.ne_of_gt (blk_lt (g := gb102) (o := .cells #[.int .i64 0, .string (⟨#[]⟩ : ByteArray), .int .i64 0, .int .i64 0, .bool false, .slice none 0 0, .slice none 0 0, .bool false] 45 (0, 0)) a15_) : gb103 ≠ gb102)); clear BK101; clear BK102; clear HB; have BK101 := n0_; have BK102 := n1_; have HB := n2_; have BK103 := n3_; have GW103 := n4_; have GE103 := n5_; have NB101_103 := n6_; have NB103_101 := n7_; have NB102_103 := n8_; have NB103_102 := n9_; clear n0_ n1_ n2_ n3_ n4_ n5_ n6_ n7_ n8_ n9_; clear hb hbox hg; have hnb7 := NB101_102.out; have hnc7 := NB102_101.out; have hnb8 := NB101_103.out; have hnc8 := NB103_101.out; have hcz9_0 := bk_ BK101.out 0 (.int .i64 a0_0); have hcz9_1 := bk_ BK101.out 1 (.string a0_1); have hcz9_2 := bk_ BK101.out 2 (.int .i64 a0_2); have hcz9_3 := bk_ BK101.out 3 (.int .i64 a0_3); have hcz9_4 := bk_ BK101.out 4 (.bool a0_4); have hcz9_5 := bk_ BK101.out 5 (.slice A0_5 l0_5.length c0_5); have hcz9_6 := bk_ BK101.out 6 (.slice A0_6 l0_6.length c0_6); have hcz9_7 := bk_ BK101.out 7 (.bool a0_7); have hfz9_0 := blk_frozen BK101.out 0; have hfz9_1 := blk_frozen BK101.out 1; have hfz9_2 := blk_frozen BK101.out 2; have hfz9_3 := blk_frozen BK101.out 3; have hfz9_4 := blk_frozen BK101.out 4; have hfz9_5 := blk_frozen BK101.out 5; have hfz9_6 := blk_frozen BK101.out 6; have hfz9_7 := blk_frozen BK101.out 7; have hnb10 := NB103_102.out; have hnc10 := NB102_103.out; have hcz11_0 := bk_ BK103.out 0 (.int .i64 0); have hcz11_1 := bk_ BK103.out 1 (.string (⟨#[]⟩ : ByteArray)); have hcz11_2 := bk_ BK103.out 2 (.int .i64 0); have hcz11_3 := bk_ BK103.out 3 (.int .i64 0); have hcz11_4 := bk_ BK103.out 4 (.bool false); have hcz11_5 := bk_ BK103.out 5 (.slice none 0 0); have hcz11_6 := bk_ BK103.out 6 (.slice none 0 0); have hcz11_7 := bk_ BK103.out 7 (.bool false); have hfz11_0 := blk_frozen BK103.out 0; have hfz11_1 := blk_frozen BK103.out 1; have hfz11_2 := blk_frozen BK103.out 2; have hfz11_3 := blk_frozen BK103.out 3; have hfz11_4 := blk_frozen BK103.out 4; have hfz11_5 := blk_frozen BK103.out 5; have hfz11_6 := blk_frozen BK103.out 6; have hfz11_7 := blk_frozen BK103.out 7) | ((with_reducible refine gate_callee (f := 12) rfl ?_); refine goesL_ (some 21) rfl rfl Try.func12 (by kernel_rfl) rfl #[.slice A0_5 l0_5.length c0_5] rfl a11_ ?_; (with_reducible refine (laws_toPartS.calls k _ _ l0_5 t104 _ ?side1 ?side2 A2.out).mono ?_); (case side1 => exact Kd.C_below HR0_5.out a3_); (case side2 => exact HC0_5.out); rintro e w12 ⟨v105, rfl, ho0, hb⟩; refine ⟨_, rfl, ?_⟩; have n0_ := mz (Kd.R_lower ho0 bz8_); have n1_ := mz (blk_below (g := gb101) (o := .cells #[.int .i64 a0_0, .string a0_1, .int .i64 a0_2, .int .i64 a0_3, .bool a0_4, .slice A0_5 l0_5.length c0_5, .slice A0_6 l0_6.length c0_6, .bool a0_7] 42 (0, 0)) (by (with_reducible repeat (first | refine blk_drewN ?_ _ | refine blk_drew ?_ | refine blk_alloc ?_ _)); refine blk_far ?_ NB101_103.out _; (with_reducible repeat (first | refine blk_drewN ?_ _ | refine blk_drew ?_ | refine blk_alloc ?_ _)); refine blk_far ?_ NB101_103.out _; (with_reducible repeat (first | refine blk_drewN ?_ _ | refine blk_drew ?_ | refine blk_alloc ?_ _)); refine blk_far ?_ NB101_103.out _; (with_reducible repeat (first | refine blk_drewN ?_ _ | refine blk_drew ?_ | refine blk_alloc ?_ _)); refine blk_far ?_ NB101_103.out _; (with_reducible repeat (first | refine blk_drewN ?_ _ | refine blk_drew ?_ | refine blk_alloc ?_ _)); refine blk_far ?_ NB101_103.out _; (with_reducible repeat (first | refine blk_drewN ?_ _ | refine blk_drew ?_ | refine blk_alloc ?_ _)); exact BK101.out) hb); have n2_ := mz (blk_below (g := gb102) (o := .cells #[.int .i64 0, .string (⟨#[]⟩ : ByteArray), .int .i64 0, .int .i64 0, .bool false, .slice none 0 0, .slice none 0 0, .bool false] 45 (0, 0)) (by (with_reducible repeat (first | refine blk_drewN ?_ _ | refine blk_drew ?_ | refine blk_alloc ?_ _)); refine blk_far ?_ NB102_103.out _; (with_reducible repeat (first | refine blk_drewN ?_ _ | refine blk_drew ?_ | refine blk_alloc ?_ _)); refine blk_far ?_ NB102_103.out _; (with_reducible repeat (first | refine blk_drewN ?_ _ | refine blk_drew ?_ | refine blk_alloc ?_ _)); refine blk_far ?_ NB102_103.out _; (with_reducible repeat (first | refine blk_drewN ?_ _ | refine blk_drew ?_ | refine blk_alloc ?_ _)); refine blk_far ?_ NB102_103.out _; (with_reducible repeat (first | refine blk_drewN ?_ _ | refine blk_drew ?_ | refine blk_alloc ?_ _)); refine blk_far ?_ NB102_103.out _; (with_reducible repeat (first | refine blk_drewN ?_ _ | refine blk_drew ?_ | refine blk_alloc ?_ _)); exact BK102.out) hb); have n3_ := mz (blk_below (g := gb103) (o := .cells #[.int .i64 a0_0, .string a0_1, .int .i64 a0_2, .int .i64 a0_3, .bool a0_4, .slice none 0 0, .slice none 0 0, .bool false] 45 (0, 0)) (by (with_reducible repeat (first | refine blk_drewN ?_ _ | refine blk_drew ?_ | refine blk_alloc ?_ _)); refine blk_put (cs := #[.int .i64 a0_0, .string a0_1, .int .i64 a0_2, .int .i64 a0_3, .bool false, .slice none 0 0, .slice none 0 0, .bool false]) ?_ 4 _ rfl; (with_reducible repeat (first | refine blk_drewN ?_ _ | refine blk_drew ?_ | refine blk_alloc ?_ _)); refine blk_put (cs := #[.int .i64 a0_0, .string a0_1, .int .i64 a0_2, .int .i64 0, .bool false, .slice none 0 0, .slice none 0 0, .bool false]) ?_ 3 _ rfl; (with_reducible repeat (first | refine blk_drewN ?_ _ | refine blk_drew ?_ | refine blk_alloc ?_ _)); refine blk_put (cs := #[.int .i64 a0_0, .string a0_1, .int .i64 0, .int .i64 0, .bool false, .slice none 0 0, .slice none 0 0, .bool false]) ?_ 2 _ rfl; (with_reducible repeat (first | refine blk_drewN ?_ _ | refine blk_drew ?_ | refine blk_alloc ?_ _)); refine blk_put (cs := #[.int .i64 a0_0, .string (⟨#[]⟩ : ByteArray), .int .i64 0, .int .i64 0, .bool false, .slice none 0 0, .slice none 0 0, .bool false]) ?_ 1 _ rfl; (with_reducible repeat (first | refine blk_drewN ?_ _ | refine blk_drew ?_ | refine blk_alloc ?_ _)); refine blk_put (cs := #[.int .i64 0, .string (⟨#[]⟩ : ByteArray), .int .i64 0, .int .i64 0, .bool false, .slice none 0 0, .slice none 0 0, .bool false]) ?_ 0 _ rfl; (with_reducible repeat (first | refine blk_drewN ?_ _ | refine blk_drew ?_ | refine blk_alloc ?_ _)); exact BK103.out) hb); have n4_ := mz (bs7_ hb); clear BK101; clear BK102; clear BK103; clear HB; have HO106 := n0_; have BK101 := n1_; have BK102 := n2_; have BK103 := n3_; have HB := n4_; clear n0_ n1_ n2_ n3_ n4_; (try clear hb); (try clear hb2); (try clear hk); (try clear hi); (try clear ho0); obtain ⟨Ao13, co13, eo13⟩ := Kd.R_slice HO106.out; subst eo13; have hcz14_0 := bk_ BK103.out 0 (.int .i64 a0_0); have hcz14_1 := bk_ BK103.out 1 (.string a0_1); have hcz14_2 := bk_ BK103.out 2 (.int .i64 a0_2); have hcz14_3 := bk_ BK103.out 3 (.int .i64 a0_3); have hcz14_4 := bk_ BK103.out 4 (.bool a0_4); have hcz14_5 := bk_ BK103.out 5 (.slice none 0 0); have hcz14_6 := bk_ BK103.out 6 (.slice none 0 0); have hcz14_7 := bk_ BK103.out 7 (.bool false); have hfz14_0 := blk_frozen BK103.out 0; have hfz14_1 := blk_frozen BK103.out 1; have hfz14_2 := blk_frozen BK103.out 2; have hfz14_3 := blk_frozen BK103.out 3; have hfz14_4 := blk_frozen BK103.out 4; have hfz14_5 := blk_frozen BK103.out 5; have hfz14_6 := blk_frozen BK103.out 6; have hfz14_7 := blk_frozen BK103.out 7; have hcz15_0 := bk_ BK101.out 0 (.int .i64 a0_0); have hcz15_1 := bk_ BK101.out 1 (.string a0_1); have hcz15_2 := bk_ BK101.out 2 (.int .i64 a0_2); have hcz15_3 := bk_ BK101.out 3 (.int .i64 a0_3); have hcz15_4 := bk_ BK101.out 4 (.bool a0_4); have hcz15_5 := bk_ BK101.out 5 (.slice A0_5 l0_5.length c0_5); have hcz15_6 := bk_ BK101.out 6 (.slice A0_6 l0_6.length c0_6); have hcz15_7 := bk_ BK101.out 7 (.bool a0_7); have hfz15_0 := blk_frozen BK101.out 0; have hfz15_1 := blk_frozen BK101.out 1; have hfz15_2 := blk_frozen BK101.out 2; have hfz15_3 := blk_frozen BK101.out 3; have hfz15_4 := blk_frozen BK101.out 4; have hfz15_5 := blk_frozen BK101.out 5; have hfz15_6 := blk_frozen BK101.out 6; have hfz15_7 := blk_frozen BK101.out 7) | ((with_reducible refine gate_callee (f := 12) rfl ?_); refine goesL_ (some 25) rfl rfl Try.func12 (by kernel_rfl) rfl #[.slice A0_6 l0_6.length c0_6] rfl a11_ ?_; (with_reducible refine (laws_toPartS.calls k _ _ l0_6 t107 _ ?side1 ?side2 A3.out).mono ?_); (case side1 => exact Kd.C_below HR0_6.out a3_); (case side2 => exact HC0_6.out); rintro e w16 ⟨v108, rfl, ho0, hb⟩; refine ⟨_, rfl, ?_⟩; have n0_ := mz (Kd.R_elder' a1_ (Kd.R_base ho0) hb); have n1_ := mz (Kd.R_lower (Kd.R_new' ho0 (Kd.R_lt a1_)) bz8_); have n2_ := mz (blk_below (g := gb101) (o := .cells #[.int .i64 a0_0, .string a0_1, .int .i64 a0_2, .int .i64 a0_3, .bool a0_4, .slice A0_5 l0_5.length c0_5, .slice A0_6 l0_6.length c0_6, .bool a0_7] 42 (0, 0)) (by (with_reducible repeat (first | refine blk_drewN ?_ _ | refine blk_drew ?_ | refine blk_alloc ?_ _)); refine blk_far ?_ NB101_103.out _; (with_reducible repeat (first | refine blk_drewN ?_ _ | refine blk_drew ?_ | refine blk_alloc ?_ _)); exact BK101.out) hb); have n3_ := mz (blk_below (g := gb102) (o := .cells #[.int .i64 0, .string (⟨#[]⟩ : ByteArray), .int .i64 0, .int .i64 0, .bool false, .slice none 0 0, .slice none 0 0, .bool false] 45 (0, 0)) (by (with_reducible repeat (first | refine blk_drewN ?_ _ | refine blk_drew ?_ | refine blk_alloc ?_ _)); refine blk_far ?_ NB102_103.out _; (with_reducible repeat (first | refine blk_drewN ?_ _ | refine blk_drew ?_ | refine blk_alloc ?_ _)); exact BK102.out) hb); have n4_ := mz (blk_below (g := gb103) (o := .cells #[.int .i64 a0_0, .string a0_1, .int .i64 a0_2, .int .i64 a0_3, .bool a0_4, .slice Ao13 t104.length co13, .slice none 0 0, .bool false] 45 (0, 0)) (by (with_reducible repeat (first | refine blk_drewN ?_ _ | refine blk_drew ?_ | refine blk_alloc ?_ _)); refine blk_put (cs := #[.int .i64 a0_0, .string a0_1, .int .i64 a0_2, .int .i64 a0_3, .bool a0_4, .slice none 0 0, .slice none 0 0, .bool false]) ?_ 5 _ rfl; (with_reducible repeat (first | refine blk_drewN ?_ _ | refine blk_drew ?_ | refine blk_alloc ?_ _)); exact BK103.out) hb); have n5_ := mz (bs7_ hb); clear HO106; clear BK101; clear BK102; clear BK103; clear HB; have HO106 := n0_; have HO109 := n1_; have BK101 := n2_; have BK102 := n3_; have BK103 := n4_; have HB := n5_; clear n0_ n1_ n2_ n3_ n4_ n5_; (try clear hb); (try clear hb2); (try clear hk); (try clear hi); (try clear ho0); obtain ⟨Ao17, co17, eo17⟩ := Kd.R_slice HO109.out; subst eo17; have hcz18_0 := bk_ BK103.out 0 (.int .i64 a0_0); have hcz18_1 := bk_ BK103.out 1 (.string a0_1); have hcz18_2 := bk_ BK103.out 2 (.int .i64 a0_2); have hcz18_3 := bk_ BK103.out 3 (.int .i64 a0_3); have hcz18_4 := bk_ BK103.out 4 (.bool a0_4); have hcz18_5 := bk_ BK103.out 5 (.slice Ao13 t104.length co13); have hcz18_6 := bk_ BK103.out 6 (.slice none 0 0); have hcz18_7 := bk_ BK103.out 7 (.bool false); have hfz18_0 := blk_frozen BK103.out 0; have hfz18_1 := blk_frozen BK103.out 1; have hfz18_2 := blk_frozen BK103.out 2; have hfz18_3 := blk_frozen BK103.out 3; have hfz18_4 := blk_frozen BK103.out 4; have hfz18_5 := blk_frozen BK103.out 5; have hfz18_6 := blk_frozen BK103.out 6; have hfz18_7 := blk_frozen BK103.out 7; have hcz19_0 := bk_ BK101.out 0 (.int .i64 a0_0); have hcz19_1 := bk_ BK101.out 1 (.string a0_1); have hcz19_2 := bk_ BK101.out 2 (.int .i64 a0_2); have hcz19_3 := bk_ BK101.out 3 (.int .i64 a0_3); have hcz19_4 := bk_ BK101.out 4 (.bool a0_4); have hcz19_5 := bk_ BK101.out 5 (.slice A0_5 l0_5.length c0_5); have hcz19_6 := bk_ BK101.out 6 (.slice A0_6 l0_6.length c0_6); have hcz19_7 := bk_ BK101.out 7 (.bool a0_7); have hfz19_0 := blk_frozen BK101.out 0; have hfz19_1 := blk_frozen BK101.out 1; have hfz19_2 := blk_frozen BK101.out 2; have hfz19_3 := blk_frozen BK101.out 3; have hfz19_4 := blk_frozen BK101.out 4; have hfz19_5 := blk_frozen BK101.out 5; have hfz19_6 := blk_frozen BK101.out 6; have hfz19_7 := blk_frozen BK101.out 7; have hcz20_0 := bk_ BK102.out 0 (.int .i64 0); have hcz20_1 := bk_ BK102.out 1 (.string (⟨#[]⟩ : ByteArray)); have hcz20_2 := bk_ BK102.out 2 (.int .i64 0); have hcz20_3 := bk_ BK102.out 3 (.int .i64 0); have hcz20_4 := bk_ BK102.out 4 (.bool false); have hcz20_5 := bk_ BK102.out 5 (.slice none 0 0); have hcz20_6 := bk_ BK102.out 6 (.slice none 0 0); have hcz20_7 := bk_ BK102.out 7 (.bool false); have hfz20_0 := blk_frozen BK102.out 0; have hfz20_1 := blk_frozen BK102.out 1; have hfz20_2 := blk_frozen BK102.out 2; have hfz20_3 := blk_frozen BK102.out 3; have hfz20_4 := blk_frozen BK102.out 4; have hfz20_5 := blk_frozen BK102.out 5; have hfz20_6 := blk_frozen BK102.out 6; have hfz20_7 := blk_frozen BK102.out 7))
 refine bodyPost_ret (results_cell_row rfl _ _ gb102 45 #[.int .i64 a0_0, .string a0_1, .int .i64 a0_2, .int .i64 a0_3, .bool a0_4, .slice Ao13 t104.length co13, .slice Ao17 t107.length co17, .bool a0_7] (0, 0) _ rfl (by (with_reducible repeat (first | refine blk_drewN ?_ _ | refine blk_drew ?_ | refine blk_alloc ?_ _)); refine blk_put (cs := #[.int .i64 a0_0, .string a0_1, .int .i64 a0_2, .int .i64 a0_3, .bool a0_4, .slice Ao13 t104.length co13, .slice Ao17 t107.length co17, .bool false]) ?_ 7 _ rfl; (with_reducible repeat (first | refine blk_drewN ?_ _ | refine blk_drew ?_ | refine blk_alloc ?_ _)); refine blk_put (cs := #[.int .i64 a0_0, .string a0_1, .int .i64 a0_2, .int .i64 a0_3, .bool a0_4, .slice Ao13 t104.length co13, .slice none 0 0, .bool false]) ?_ 6 _ rfl; (with_reducible repeat (first | refine blk_drewN ?_ _ | refine blk_drew ?_ | refine blk_alloc ?_ _)); refine blk_put (cs := #[.int .i64 a0_0, .string a0_1, .int .i64 a0_2, .int .i64 a0_3, .bool a0_4, .slice none 0 0, .slice none 0 0, .bool false]) ?_ 5 _ rfl; (with_reducible repeat (first | refine blk_drewN ?_ _ | refine blk_drew ?_ | refine blk_alloc ?_ _)); refine blk_put (cs := #[.int .i64 a0_0, .string a0_1, .int .i64 a0_2, .int .i64 a0_3, .bool false, .slice none 0 0, .slice none 0 0, .bool false]) ?_ 4 _ rfl; (with_reducible repeat (first | refine blk_drewN ?_ _ | refine blk_drew ?_ | refine blk_alloc ?_ _)); refine blk_put (cs := #[.int .i64 a0_0, .string a0_1, .int .i64 a0_2, .int .i64 0, .bool false, .slice none 0 0, .slice none 0 0, .bool false]) ?_ 3 _ rfl; (with_reducible repeat (first | refine blk_drewN ?_ _ | refine blk_drew ?_ | refine blk_alloc ?_ _)); refine blk_put (cs := #[.int .i64 a0_0, .string a0_1, .int .i64 0, .int .i64 0, .bool false, .slice none 0 0, .slice none 0 0, .bool false]) ?_ 2 _ rfl; (with_reducible repeat (first | refine blk_drewN ?_ _ | refine blk_drew ?_ | refine blk_alloc ?_ _)); refine blk_put (cs := #[.int .i64 a0_0, .string (⟨#[]⟩ : ByteArray), .int .i64 0, .int .i64 0, .bool false, .slice none 0 0, .slice none 0 0, .bool false]) ?_ 1 _ rfl; (with_reducible repeat (first | refine blk_drewN ?_ _ | refine blk_drew ?_ | refine blk_alloc ?_ _)); refine blk_put (cs := #[.int .i64 0, .string (⟨#[]⟩ : ByteArray), .int .i64 0, .int .i64 0, .bool false, .slice none 0 0, .slice none 0 0, .bool false]) ?_ 0 _ rfl; (with_reducible repeat (first | refine blk_drewN ?_ _ | refine blk_drew ?_ | refine blk_alloc ?_ _)); refine blk_far ?_ NB102_103.out _; (with_reducible repeat (first | refine blk_drewN ?_ _ | refine blk_drew ?_ | refine blk_alloc ?_ _)); refine blk_far ?_ NB102_103.out _; (with_reducible repeat (first | refine blk_drewN ?_ _ | refine blk_drew ?_ | refine blk_alloc ?_ _)); exact BK102.out) Try.underlying45 rfl (by kernel_rfl)) rfl ?_
 exact ⟨_, _, by first | rfl | (simp [errW_none, errW_some] <;> rfl) | (simp [*, errW_none, errW_some] <;> rfl), by (with_reducible repeat (first | apply Kd.R_alloc | apply Kd.R_drewN | apply Kd.R_drew)); exact Kd.R_mono (Kd.R_far (p := ⟨gb102, 7, none⟩) (Kd.R_far (p := ⟨gb102, 6, none⟩) (Kd.R_far (p := ⟨gb102, 5, none⟩) (Kd.R_far (p := ⟨gb102, 4, none⟩) (Kd.R_far (p := ⟨gb102, 3, none⟩) (Kd.R_far (p := ⟨gb102, 2, none⟩) (Kd.R_far (p := ⟨gb102, 1, none⟩) (Kd.R_far (p := ⟨gb102, 0, none⟩) (Kd.R_far (p := ⟨gb103, 7, none⟩) (Kd.R_far (p := ⟨gb103, 6, none⟩) (Kd.R_types (Kd.R_types HO106.out BK103.out (by decide)) BK102.out (by decide)) (fun _ hk => hk.1.2) (.slice Ao17 t107.length co17)) (fun _ hk => hk.1.2) (.bool a0_7)) (fun _ hk => hk.2) (.int .i64 a0_0)) (fun _ hk => hk.2) (.string a0_1)) (fun _ hk => hk.2) (.int .i64 a0_2)) (fun _ hk => hk.2) (.int .i64 a0_3)) (fun _ hk => hk.2) (.bool a0_4)) (fun _ hk => hk.2) (.slice Ao13 t104.length co13)) (fun _ hk => hk.2) (.slice Ao17 t107.length co17)) (fun _ hk => hk.2) (.bool a0_7)) (fun _ hk => hk.1.1.2), by (with_reducible repeat (first | apply Kd.R_alloc | apply Kd.R_drewN | apply Kd.R_drew)); exact Kd.R_mono (Kd.R_far (p := ⟨gb102, 7, none⟩) (Kd.R_far (p := ⟨gb102, 6, none⟩) (Kd.R_far (p := ⟨gb102, 5, none⟩) (Kd.R_far (p := ⟨gb102, 4, none⟩) (Kd.R_far (p := ⟨gb102, 3, none⟩) (Kd.R_far (p := ⟨gb102, 2, none⟩) (Kd.R_far (p := ⟨gb102, 1, none⟩) (Kd.R_far (p := ⟨gb102, 0, none⟩) (Kd.R_far (p := ⟨gb103, 7, none⟩) (Kd.R_far (p := ⟨gb103, 6, none⟩) (Kd.R_types (Kd.R_types HO109.out BK103.out (by decide)) BK102.out (by decide)) (fun _ hk => hk.1.2) (.slice Ao17 t107.length co17)) (fun _ hk => hk.1.2) (.bool a0_7)) (fun _ hk => hk.2) (.int .i64 a0_0)) (fun _ hk => hk.2) (.string a0_1)) (fun _ hk => hk.2) (.int .i64 a0_2)) (fun _ hk => hk.2) (.int .i64 a0_3)) (fun _ hk => hk.2) (.bool a0_4)) (fun _ hk => hk.2) (.slice Ao13 t104.length co13)) (fun _ hk => hk.2) (.slice Ao17 t107.length co17)) (fun _ hk => hk.2) (.bool a0_7)) (fun _ hk => hk.1.1.2), by repeat (first | (with_reducible first | exact HB.out | apply below_alloc | apply pw_below_drewN | apply below_drew1 | refine below_set ?_ GE101.out | refine below_set ?_ GE102.out | refine below_set ?_ GE103.out) | exact HB.out)⟩
end
section
attribute [local go_sem] max2_int min2_int max_two min_two max_three min_three max_four min_four
def laws_markClient.f (k : Nat) (a0_0 : Int) (a0_1 : ByteArray) (a0_2 : Int) (a0_3 : Int) (a0_4 : Bool) (l0_5 : List (S86)) (l0_6 : List (S86)) (a0_7 : Bool) (a1 : Int) : Option (Int × (List (S86)) × (List (S86))) := (laws_markPartS.f k l0_5 a1).bind fun bt102 => ((laws_markPartS.f k l0_6 bt102.1).bind fun bt104 => (some (bt104.1, bt102.2, bt104.2)))
set_option maxHeartbeats 8000000 in
set_option maxRecDepth 100000 in
theorem laws_markClient.calls (k : Nat) (a0_0 : Int) (a0_1 : ByteArray) (a0_2 : Int) (a0_3 : Int) (a0_4 : Bool) (P0_5_ : Nat → Prop) (u9000_ : Value) (l0_5 : List (S86)) (P0_6_ : Nat → Prop) (u9001_ : Value) (l0_6 : List (S86)) (a0_7 : Bool) (a1 : Int) (r1 : Int) (r2 : List (S86)) (r3 : List (S86)) (w0 w : World) (hB : Below w0.heap.size w0 w) (ho0_5 : Kd.R k86 86 w w0.heap.size P0_5_ u9000_ l0_5) (hp0_5_0_6 : ∀ k_, P0_5_ k_ → ¬ P0_6_ k_) (ho0_6 : Kd.R k86 86 w w0.heap.size P0_6_ u9001_ l0_6) (hp0_6_0_5 : ∀ k_, P0_6_ k_ → ¬ P0_5_ k_) (h : laws_markClient.f k a0_0 a0_1 a0_2 a0_3 a0_4 l0_5 l0_6 a0_7 a1 = some (r1, r2, r3)) :
  Calls Try.prog 24 #[.agg #[.int .i64 a0_0, .string a0_1, .int .i64 a0_2, .int .i64 a0_3, .bool a0_4, u9000_, u9001_, .bool a0_7], .int .i64 a1] w fun e w' => e = .returned (.int .i64 r1) ∧ Kd.R k86 86 w' w0.heap.size (fun k_ => ((P0_5_ k_ ∨ P0_6_ k_) ∨ w.heap.size ≤ k_)) u9000_ r2 ∧ Kd.R k86 86 w' w0.heap.size (fun k_ => ((P0_5_ k_ ∨ P0_6_ k_) ∨ w.heap.size ≤ k_)) u9001_ r3 ∧ Below w0.heap.size w0 w' ∧ Kept w w' (fun k_ => P0_5_ k_ ∨ P0_6_ k_) := by
 have hu45 := Try.underlying45
 have HO0_5 := mz (show Kd.R k86 86 w w0.heap.size (fun k_ => ((P0_5_ k_ ∨ P0_6_ k_) ∨ w.heap.size ≤ k_) ∧ some k_ ≠ (u9001_ : Value).ownBlock) u9000_ l0_5 from Kd.R_mono ho0_5 (fun k_ hk => ⟨(.inl (.inl hk)), fun e_ => hp0_5_0_6 k_ hk (ho0_6.1 k_ e_.symm)⟩))
 have HO0_6 := mz (show Kd.R k86 86 w w0.heap.size (fun k_ => ((P0_5_ k_ ∨ P0_6_ k_) ∨ w.heap.size ≤ k_) ∧ some k_ ≠ (u9000_ : Value).ownBlock) u9001_ l0_6 from Kd.R_mono ho0_6 (fun k_ hk => ⟨(.inl (.inr hk)), fun e_ => hp0_6_0_5 k_ hk (ho0_5.1 k_ e_.symm)⟩))
 have HK := mz (Kept.refl w (fun k_ => P0_5_ k_ ∨ P0_6_ k_))
 have HW0 := mz hB.size
 have HB := mz hB
 clear hB
 have H : ((laws_markPartS.f k l0_5 a1).bind fun bt102 => ((laws_markPartS.f k l0_6 bt102.1).bind fun bt104 => (some (bt104.1, bt102.2, bt104.2)))) = some (r1, r2, r3) := h
 clear h
 replace H := be0_ H
 obtain ⟨⟨t102, t103⟩, A30, H⟩ := H
 replace H : ((laws_markPartS.f k l0_6 t102).bind fun bt104 => (some (bt104.1, t103, bt104.2))) = some (r1, r2, r3) := H
 have A3 := mz A30
 clear A30
 replace H := be0_ H
 obtain ⟨⟨t104, t105⟩, A40, H⟩ := H
 replace H : (some (t104, t103, t105)) = some (r1, r2, r3) := H
 have A4 := mz A40
 clear A40
 simp only [Option.some.injEq, Prod.mk.injEq] at H
 obtain ⟨rfl, rfl, rfl⟩ := H
 obtain ⟨Ao5, co5, eo5⟩ := Kd.R_slice HO0_5.out
 subst eo5
 obtain ⟨Ao6, co6, eo6⟩ := Kd.R_slice HO0_6.out
 subst eo6
 go_enter Try.func24, Try.ntmps24
 go_wp2_with (first | ((with_reducible refine gate_dst (N := 2) rfl ?_); refine bz_ 2 #[.int .i64 a0_0, .string a0_1, .int .i64 a0_2, .int .i64 a0_3, .bool a0_4, .slice Ao5 l0_5.length co5, .slice Ao6 l0_6.length co6, .bool a0_7] 45 ?_; intro gb101 hg w7 hbox hb; have n0_ := mz (Kd.R_below a17_ hb); have n1_ := mz (Kd.R_below a18_ hb); have n2_ := mz (Kept.below (S := (fun k_ => P0_5_ k_ ∨ P0_6_ k_)) a13_ hb); have n3_ := mz (bs0_ hb); have n4_ := mz (hbox); have n5_ := mz ((by rw [hg]; exact a4_ : w.heap.size ≤ gb101)); have n6_ := mz ((by rw [hg]; exact bz1_ : w0.heap.size ≤ gb101)); clear HO0_5; clear HO0_6; clear HK; clear HB; have HO0_5 := n0_; have HO0_6 := n1_; have HK := n2_; have HB := n3_; have BK101 := n4_; have GW101 := n5_; have GE101 := n6_; clear n0_ n1_ n2_ n3_ n4_ n5_ n6_; clear hb hbox hg; have hcz8_0 := bk_ BK101.out 0 (.int .i64 a0_0); have hcz8_1 := bk_ BK101.out 1 (.string a0_1); have hcz8_2 := bk_ BK101.out 2 (.int .i64 a0_2); have hcz8_3 := bk_ BK101.out 3 (.int .i64 a0_3); have hcz8_4 := bk_ BK101.out 4 (.bool a0_4); have hcz8_5 := bk_ BK101.out 5 (.slice Ao5 l0_5.length co5); have hcz8_6 := bk_ BK101.out 6 (.slice Ao6 l0_6.length co6); have hcz8_7 := bk_ BK101.out 7 (.bool a0_7); have hfz8_0 := blk_frozen BK101.out 0; have hfz8_1 := blk_frozen BK101.out 1; have hfz8_2 := blk_frozen BK101.out 2; have hfz8_3 := blk_frozen BK101.out 3; have hfz8_4 := blk_frozen BK101.out 4; have hfz8_5 := blk_frozen BK101.out 5; have hfz8_6 := blk_frozen BK101.out 6; have hfz8_7 := blk_frozen BK101.out 7) | ((with_reducible refine gate_callee (f := 17) rfl ?_); refine goesL_ (some 8) rfl rfl Try.func17 (by kernel_rfl) rfl #[.slice Ao5 l0_5.length co5, .int .i64 a1] rfl a11_ ?_; (with_reducible refine (laws_markPartS.calls k (fun k_ => some k_ = (.slice Ao5 l0_5.length co5 : Value).ownBlock) (.slice Ao5 l0_5.length co5) l0_5 a1 t102 t103 w0 _ ?side1 ?side2 A3.out).mono ?_); (case side1 => repeat (first | (with_reducible first | exact HB.out | apply below_alloc | apply pw_below_drewN | apply below_drew1 | refine below_set ?_ GE101.out) | exact HB.out)); (case side2 => exact Kd.R_tight rfl HO0_5.out); rintro e w9 ⟨rfl, hy0, hb, hkp⟩; refine ⟨_, rfl, ?_⟩; have n0_ := mz (Kd.R_reok rfl hy0 (fun k_ e_ => HO0_5.out.1 k_ e_)); have n1_ := mz (Kd.R_mono (ok' := fun k_ => ((P0_5_ k_ ∨ P0_6_ k_) ∨ w.heap.size ≤ k_) ∧ some k_ ≠ (.slice Ao5 l0_5.length co5 : Value).ownBlock) (Kd.R_keptB (HO0_6.out) hkp (fun k_ hk_ hs_ => (hk_.2) hs_)) (fun k_ hk_ => ⟨hk_.1.1, hk_.1.2⟩)); have n2_ := mz (blk_kept a14_ hkp (fun hs_ => (fun e_ => (Kd.R_ne HO0_5.out BK101.out (by decide)) e_) hs_)); have n3_ := mz (Kept.then_ (S := (fun k_ => P0_5_ k_ ∨ P0_6_ k_)) a7_ hkp (fun k_ hs_ => (fun e_ => (HO0_5.out.1 k_ e_.symm).1) hs_)); have n4_ := mz (hb); clear HO0_5; clear HO0_6; clear BK101; clear HK; clear HB; have HO0_5 := n0_; have HO0_6 := n1_; have BK101 := n2_; have HK := n3_; have HB := n4_; clear n0_ n1_ n2_ n3_ n4_; (try clear hb); (try clear hkp); (try clear hy0); have hcz10_0 := bk_ BK101.out 0 (.int .i64 a0_0); have hcz10_1 := bk_ BK101.out 1 (.string a0_1); have hcz10_2 := bk_ BK101.out 2 (.int .i64 a0_2); have hcz10_3 := bk_ BK101.out 3 (.int .i64 a0_3); have hcz10_4 := bk_ BK101.out 4 (.bool a0_4); have hcz10_5 := bk_ BK101.out 5 (.slice Ao5 l0_5.length co5); have hcz10_6 := bk_ BK101.out 6 (.slice Ao6 l0_6.length co6); have hcz10_7 := bk_ BK101.out 7 (.bool a0_7); have hfz10_0 := blk_frozen BK101.out 0; have hfz10_1 := blk_frozen BK101.out 1; have hfz10_2 := blk_frozen BK101.out 2; have hfz10_3 := blk_frozen BK101.out 3; have hfz10_4 := blk_frozen BK101.out 4; have hfz10_5 := blk_frozen BK101.out 5; have hfz10_6 := blk_frozen BK101.out 6; have hfz10_7 := blk_frozen BK101.out 7) | ((with_reducible refine gate_callee (f := 17) rfl ?_); refine goesL_ (some 12) rfl rfl Try.func17 (by kernel_rfl) rfl #[.slice Ao6 l0_6.length co6, .int .i64 t102] rfl a11_ ?_; (with_reducible refine (laws_markPartS.calls k (fun k_ => some k_ = (.slice Ao6 l0_6.length co6 : Value).ownBlock) (.slice Ao6 l0_6.length co6) l0_6 t102 t104 t105 w0 _ ?side1 ?side2 A4.out).mono ?_); (case side1 => repeat (first | (with_reducible first | exact HB.out | apply below_alloc | apply pw_below_drewN | apply below_drew1 | refine below_set ?_ GE101.out) | exact HB.out)); (case side2 => exact Kd.R_tight rfl HO0_6.out); rintro e w11 ⟨rfl, hy0, hb, hkp⟩; refine ⟨_, rfl, ?_⟩; have n0_ := mz (Kd.R_mono (ok' := fun k_ => ((P0_5_ k_ ∨ P0_6_ k_) ∨ w.heap.size ≤ k_) ∧ some k_ ≠ (.slice Ao6 l0_6.length co6 : Value).ownBlock) (Kd.R_keptB (HO0_5.out) hkp (fun k_ hk_ hs_ => (hk_.2) hs_)) (fun k_ hk_ => ⟨hk_.1.1, hk_.1.2⟩)); have n1_ := mz (Kd.R_reok rfl hy0 (fun k_ e_ => HO0_6.out.1 k_ e_)); have n2_ := mz (blk_kept a14_ hkp (fun hs_ => (fun e_ => (Kd.R_ne HO0_6.out BK101.out (by decide)) e_) hs_)); have n3_ := mz (Kept.then_ (S := (fun k_ => P0_5_ k_ ∨ P0_6_ k_)) a7_ hkp (fun k_ hs_ => (fun e_ => (HO0_6.out.1 k_ e_.symm).1) hs_)); have n4_ := mz (hb); clear HO0_5; clear HO0_6; clear BK101; clear HK; clear HB; have HO0_5 := n0_; have HO0_6 := n1_; have BK101 := n2_; have HK := n3_; have HB := n4_; clear n0_ n1_ n2_ n3_ n4_; (try clear hb); (try clear hkp); (try clear hy0)))
 go_ret
 exact ⟨a27_, (by (with_reducible repeat (first | apply Kd.R_alloc | apply Kd.R_drewN | apply Kd.R_drew)); exact Kd.R_mono HO0_5.out (fun _ hk => hk.1)), (by (with_reducible repeat (first | apply Kd.R_alloc | apply Kd.R_drewN | apply Kd.R_drew)); exact Kd.R_mono HO0_6.out (fun _ hk => hk.1)), a8_, a7_⟩
end
section
attribute [local go_sem] max2_int min2_int max_two min_two max_three min_three max_four min_four
def laws_heldClient.f (k : Nat) (a0_0 : Int) (a0_1 : ByteArray) (a0_2 : Int) (a0_3 : Int) (a0_4 : Bool) (l0_5 : List (S86)) (l0_6 : List (S86)) (a0_7 : Bool) (a1 : Int) : Option (Int) := (laws_heldPartS.f k l0_5 a1).bind fun t102 => (if t102 < 0 then (some (-1)) else ((laws_heldPartS.f k l0_6 t102).bind fun t103 => (if t103 < 0 then (some (-1)) else (some t103))))
set_option maxHeartbeats 8000000 in
set_option maxRecDepth 100000 in
theorem laws_heldClient.calls (k : Nat) (a0_0 : Int) (a0_1 : ByteArray) (a0_2 : Int) (a0_3 : Int) (a0_4 : Bool) (A0_5 : Option Addr) (c0_5 : Nat) (l0_5 : List (S86)) (A0_6 : Option Addr) (c0_6 : Nat) (l0_6 : List (S86)) (a0_7 : Bool) (a1 : Int) (r : Int) (w : World) (hr0_5 : Kd.C k86 w A0_5 l0_5.length l0_5) (hc0_5 : l0_5.length ≤ c0_5) (hr0_6 : Kd.C k86 w A0_6 l0_6.length l0_6) (hc0_6 : l0_6.length ≤ c0_6) (h : laws_heldClient.f k a0_0 a0_1 a0_2 a0_3 a0_4 l0_5 l0_6 a0_7 a1 = some r) :
  Calls Try.prog 25 #[.agg #[.int .i64 a0_0, .string a0_1, .int .i64 a0_2, .int .i64 a0_3, .bool a0_4, .slice A0_5 l0_5.length c0_5, .slice A0_6 l0_6.length c0_6, .bool a0_7], .int .i64 a1] w fun e w' => e = .returned (.int .i64 r) ∧ Below w.heap.size w w' := by
 have hu45 := Try.underlying45
 have HR0_5 := mz hr0_5
 have HC0_5 := mz hc0_5
 clear hr0_5 hc0_5
 have HR0_6 := mz hr0_6
 have HC0_6 := mz hc0_6
 clear hr0_6 hc0_6
 have HB := mz (Below.refl w.heap.size w)
 have H : ((laws_heldPartS.f k l0_5 a1).bind fun t102 => (if t102 < 0 then (some (-1)) else ((laws_heldPartS.f k l0_6 t102).bind fun t103 => (if t103 < 0 then (some (-1)) else (some t103))))) = some r := h
 clear h
 replace H := be0_ H
 obtain ⟨t102, A30, H⟩ := H
 replace H : (if t102 < 0 then (some (-1)) else ((laws_heldPartS.f k l0_6 t102).bind fun t103 => (if t103 < 0 then (some (-1)) else (some t103)))) = some r := H
 have A3 := mz A30
 clear A30
 by_cases c4 : t102 < 0
 ·rw [if_pos c4] at H
  have c4b0 : decide (t102 < 0) = true := decide_eq_true c4
  clear c4
  obtain rfl := Option.some.inj H
  go_enter Try.func25, Try.ntmps25
  go_wp2_with (first | ((with_reducible refine gate_dst (N := 2) rfl ?_); refine bz_ 2 #[.int .i64 a0_0, .string a0_1, .int .i64 a0_2, .int .i64 a0_3, .bool a0_4, .slice A0_5 l0_5.length c0_5, .slice A0_6 l0_6.length c0_6, .bool a0_7] 45 ?_; intro gb101 hg w5 hbox hb; have n0_ := mz (bs0_ hb); have n1_ := mz (hbox); have n2_ := mz ((by rw [hg]; exact bz1_ : w.heap.size ≤ gb101)); have n3_ := mz ((by rw [hg]; exact bz1_ : w.heap.size ≤ gb101)); clear HB; have HB := n0_; have BK101 := n1_; have GW101 := n2_; have GE101 := n3_; clear n0_ n1_ n2_ n3_; clear hb hbox hg; have hcz6_0 := bk_ BK101.out 0 (.int .i64 a0_0); have hcz6_1 := bk_ BK101.out 1 (.string a0_1); have hcz6_2 := bk_ BK101.out 2 (.int .i64 a0_2); have hcz6_3 := bk_ BK101.out 3 (.int .i64 a0_3); have hcz6_4 := bk_ BK101.out 4 (.bool a0_4); have hcz6_5 := bk_ BK101.out 5 (.slice A0_5 l0_5.length c0_5); have hcz6_6 := bk_ BK101.out 6 (.slice A0_6 l0_6.length c0_6); have hcz6_7 := bk_ BK101.out 7 (.bool a0_7); have hfz6_0 := blk_frozen BK101.out 0; have hfz6_1 := blk_frozen BK101.out 1; have hfz6_2 := blk_frozen BK101.out 2; have hfz6_3 := blk_frozen BK101.out 3; have hfz6_4 := blk_frozen BK101.out 4; have hfz6_5 := blk_frozen BK101.out 5; have hfz6_6 := blk_frozen BK101.out 6; have hfz6_7 := blk_frozen BK101.out 7) | ((with_reducible refine gate_callee (f := 71) rfl ?_); refine goesL_ (some 8) rfl rfl Try.func71 (by kernel_rfl) rfl #[.slice A0_5 l0_5.length c0_5, .int .i64 a1] rfl a11_ ?_; (with_reducible refine (laws_heldPartS.calls k _ _ l0_5 a1 t102 _ ?side1 ?side2 A3.out).mono ?_); (case side1 => repeat (first | exact (Kd.C_below HR0_5.out HB.out) | (with_reducible refine Kd.C_alloc ?_ _) | (with_reducible refine Kd.C_drewN ?_ _) | (with_reducible refine Kd.C_drew ?_))); (case side2 => exact HC0_5.out); rintro e w7 ⟨rfl, hb⟩; refine ⟨_, rfl, ?_⟩; have n0_ := mz (blk_below (g := gb101) (o := .cells #[.int .i64 a0_0, .string a0_1, .int .i64 a0_2, .int .i64 a0_3, .bool a0_4, .slice A0_5 l0_5.length c0_5, .slice A0_6 l0_6.length c0_6, .bool a0_7] 45 (0, 0)) a14_ hb); have n1_ := mz (bs2_ hb); clear BK101; clear HB; have BK101 := n0_; have HB := n1_; clear n0_ n1_; (try clear hb); (try clear hb2); (try clear hk); (try clear hi)))
  go_ret
  exact ⟨a27_, a8_⟩
 ·rw [if_neg c4] at H
  have c4b0 : decide (t102 < 0) = false := decide_eq_false c4
  clear c4
  replace H := be0_ H
  obtain ⟨t103, A80, H⟩ := H
  replace H : (if t103 < 0 then (some (-1)) else (some t103)) = some r := H
  have A8 := mz A80
  clear A80
  by_cases c9 : t103 < 0
  ·rw [if_pos c9] at H
   have c9b0 : decide (t103 < 0) = true := decide_eq_true c9
   clear c9
   obtain rfl := Option.some.inj H
   go_enter Try.func25, Try.ntmps25
   go_wp2_with (first | ((with_reducible refine gate_dst (N := 2) rfl ?_); refine bz_ 2 #[.int .i64 a0_0, .string a0_1, .int .i64 a0_2, .int .i64 a0_3, .bool a0_4, .slice A0_5 l0_5.length c0_5, .slice A0_6 l0_6.length c0_6, .bool a0_7] 45 ?_; intro gb101 hg w10 hbox hb; have n0_ := mz (bs0_ hb); have n1_ := mz (hbox); have n2_ := mz ((by rw [hg]; exact bz1_ : w.heap.size ≤ gb101)); have n3_ := mz ((by rw [hg]; exact bz1_ : w.heap.size ≤ gb101)); clear HB; have HB := n0_; have BK101 := n1_; have GW101 := n2_; have GE101 := n3_; clear n0_ n1_ n2_ n3_; clear hb hbox hg; have hcz11_0 := bk_ BK101.out 0 (.int .i64 a0_0); have hcz11_1 := bk_ BK101.out 1 (.string a0_1); have hcz11_2 := bk_ BK101.out 2 (.int .i64 a0_2); have hcz11_3 := bk_ BK101.out 3 (.int .i64 a0_3); have hcz11_4 := bk_ BK101.out 4 (.bool a0_4); have hcz11_5 := bk_ BK101.out 5 (.slice A0_5 l0_5.length c0_5); have hcz11_6 := bk_ BK101.out 6 (.slice A0_6 l0_6.length c0_6); have hcz11_7 := bk_ BK101.out 7 (.bool a0_7); have hfz11_0 := blk_frozen BK101.out 0; have hfz11_1 := blk_frozen BK101.out 1; have hfz11_2 := blk_frozen BK101.out 2; have hfz11_3 := blk_frozen BK101.out 3; have hfz11_4 := blk_frozen BK101.out 4; have hfz11_5 := blk_frozen BK101.out 5; have hfz11_6 := blk_frozen BK101.out 6; have hfz11_7 := blk_frozen BK101.out 7) | ((with_reducible refine gate_callee (f := 71) rfl ?_); refine goesL_ (some 8) rfl rfl Try.func71 (by kernel_rfl) rfl #[.slice A0_5 l0_5.length c0_5, .int .i64 a1] rfl a11_ ?_; (with_reducible refine (laws_heldPartS.calls k _ _ l0_5 a1 t102 _ ?side1 ?side2 A3.out).mono ?_); (case side1 => repeat (first | exact (Kd.C_below HR0_5.out HB.out) | (with_reducible refine Kd.C_alloc ?_ _) | (with_reducible refine Kd.C_drewN ?_ _) | (with_reducible refine Kd.C_drew ?_))); (case side2 => exact HC0_5.out); rintro e w12 ⟨rfl, hb⟩; refine ⟨_, rfl, ?_⟩; have n0_ := mz (blk_below (g := gb101) (o := .cells #[.int .i64 a0_0, .string a0_1, .int .i64 a0_2, .int .i64 a0_3, .bool a0_4, .slice A0_5 l0_5.length c0_5, .slice A0_6 l0_6.length c0_6, .bool a0_7] 45 (0, 0)) a14_ hb); have n1_ := mz (bs2_ hb); clear BK101; clear HB; have BK101 := n0_; have HB := n1_; clear n0_ n1_; (try clear hb); (try clear hb2); (try clear hk); (try clear hi); have hcz13_0 := bk_ BK101.out 0 (.int .i64 a0_0); have hcz13_1 := bk_ BK101.out 1 (.string a0_1); have hcz13_2 := bk_ BK101.out 2 (.int .i64 a0_2); have hcz13_3 := bk_ BK101.out 3 (.int .i64 a0_3); have hcz13_4 := bk_ BK101.out 4 (.bool a0_4); have hcz13_5 := bk_ BK101.out 5 (.slice A0_5 l0_5.length c0_5); have hcz13_6 := bk_ BK101.out 6 (.slice A0_6 l0_6.length c0_6); have hcz13_7 := bk_ BK101.out 7 (.bool a0_7); have hfz13_0 := blk_frozen BK101.out 0; have hfz13_1 := blk_frozen BK101.out 1; have hfz13_2 := blk_frozen BK101.out 2; have hfz13_3 := blk_frozen BK101.out 3; have hfz13_4 := blk_frozen BK101.out 4; have hfz13_5 := blk_frozen BK101.out 5; have hfz13_6 := blk_frozen BK101.out 6; have hfz13_7 := blk_frozen BK101.out 7) | ((with_reducible refine gate_callee (f := 71) rfl ?_); refine goesL_ (some 14) rfl rfl Try.func71 (by kernel_rfl) rfl #[.slice A0_6 l0_6.length c0_6, .int .i64 t102] rfl a11_ ?_; (with_reducible refine (laws_heldPartS.calls k _ _ l0_6 t102 t103 _ ?side1 ?side2 A8.out).mono ?_); (case side1 => repeat (first | exact (Kd.C_below HR0_6.out HB.out) | (with_reducible refine Kd.C_alloc ?_ _) | (with_reducible refine Kd.C_drewN ?_ _) | (with_reducible refine Kd.C_drew ?_))); (case side2 => exact HC0_6.out); rintro e w14 ⟨rfl, hb⟩; refine ⟨_, rfl, ?_⟩; have n0_ := mz (blk_below (g := gb101) (o := .cells #[.int .i64 a0_0, .string a0_1, .int .i64 a0_2, .int .i64 a0_3, .bool a0_4, .slice A0_5 l0_5.length c0_5, .slice A0_6 l0_6.length c0_6, .bool a0_7] 45 (0, 0)) a14_ hb); have n1_ := mz (bs2_ hb); clear BK101; clear HB; have BK101 := n0_; have HB := n1_; clear n0_ n1_; (try clear hb); (try clear hb2); (try clear hk); (try clear hi)))
   go_ret
   exact ⟨a27_, a8_⟩
  ·rw [if_neg c9] at H
   have c9b0 : decide (t103 < 0) = false := decide_eq_false c9
   clear c9
   obtain rfl := Option.some.inj H
   go_enter Try.func25, Try.ntmps25
   go_wp2_with (first | ((with_reducible refine gate_dst (N := 2) rfl ?_); refine bz_ 2 #[.int .i64 a0_0, .string a0_1, .int .i64 a0_2, .int .i64 a0_3, .bool a0_4, .slice A0_5 l0_5.length c0_5, .slice A0_6 l0_6.length c0_6, .bool a0_7] 45 ?_; intro gb101 hg w15 hbox hb; have n0_ := mz (bs0_ hb); have n1_ := mz (hbox); have n2_ := mz ((by rw [hg]; exact bz1_ : w.heap.size ≤ gb101)); have n3_ := mz ((by rw [hg]; exact bz1_ : w.heap.size ≤ gb101)); clear HB; have HB := n0_; have BK101 := n1_; have GW101 := n2_; have GE101 := n3_; clear n0_ n1_ n2_ n3_; clear hb hbox hg; have hcz16_0 := bk_ BK101.out 0 (.int .i64 a0_0); have hcz16_1 := bk_ BK101.out 1 (.string a0_1); have hcz16_2 := bk_ BK101.out 2 (.int .i64 a0_2); have hcz16_3 := bk_ BK101.out 3 (.int .i64 a0_3); have hcz16_4 := bk_ BK101.out 4 (.bool a0_4); have hcz16_5 := bk_ BK101.out 5 (.slice A0_5 l0_5.length c0_5); have hcz16_6 := bk_ BK101.out 6 (.slice A0_6 l0_6.length c0_6); have hcz16_7 := bk_ BK101.out 7 (.bool a0_7); have hfz16_0 := blk_frozen BK101.out 0; have hfz16_1 := blk_frozen BK101.out 1; have hfz16_2 := blk_frozen BK101.out 2; have hfz16_3 := blk_frozen BK101.out 3; have hfz16_4 := blk_frozen BK101.out 4; have hfz16_5 := blk_frozen BK101.out 5; have hfz16_6 := blk_frozen BK101.out 6; have hfz16_7 := blk_frozen BK101.out 7) | ((with_reducible refine gate_callee (f := 71) rfl ?_); refine goesL_ (some 8) rfl rfl Try.func71 (by kernel_rfl) rfl #[.slice A0_5 l0_5.length c0_5, .int .i64 a1] rfl a11_ ?_; (with_reducible refine (laws_heldPartS.calls k _ _ l0_5 a1 t102 _ ?side1 ?side2 A3.out).mono ?_); (case side1 => repeat (first | exact (Kd.C_below HR0_5.out HB.out) | (with_reducible refine Kd.C_alloc ?_ _) | (with_reducible refine Kd.C_drewN ?_ _) | (with_reducible refine Kd.C_drew ?_))); (case side2 => exact HC0_5.out); rintro e w17 ⟨rfl, hb⟩; refine ⟨_, rfl, ?_⟩; have n0_ := mz (blk_below (g := gb101) (o := .cells #[.int .i64 a0_0, .string a0_1, .int .i64 a0_2, .int .i64 a0_3, .bool a0_4, .slice A0_5 l0_5.length c0_5, .slice A0_6 l0_6.length c0_6, .bool a0_7] 45 (0, 0)) a14_ hb); have n1_ := mz (bs2_ hb); clear BK101; clear HB; have BK101 := n0_; have HB := n1_; clear n0_ n1_; (try clear hb); (try clear hb2); (try clear hk); (try clear hi); have hcz18_0 := bk_ BK101.out 0 (.int .i64 a0_0); have hcz18_1 := bk_ BK101.out 1 (.string a0_1); have hcz18_2 := bk_ BK101.out 2 (.int .i64 a0_2); have hcz18_3 := bk_ BK101.out 3 (.int .i64 a0_3); have hcz18_4 := bk_ BK101.out 4 (.bool a0_4); have hcz18_5 := bk_ BK101.out 5 (.slice A0_5 l0_5.length c0_5); have hcz18_6 := bk_ BK101.out 6 (.slice A0_6 l0_6.length c0_6); have hcz18_7 := bk_ BK101.out 7 (.bool a0_7); have hfz18_0 := blk_frozen BK101.out 0; have hfz18_1 := blk_frozen BK101.out 1; have hfz18_2 := blk_frozen BK101.out 2; have hfz18_3 := blk_frozen BK101.out 3; have hfz18_4 := blk_frozen BK101.out 4; have hfz18_5 := blk_frozen BK101.out 5; have hfz18_6 := blk_frozen BK101.out 6; have hfz18_7 := blk_frozen BK101.out 7) | ((with_reducible refine gate_callee (f := 71) rfl ?_); refine goesL_ (some 14) rfl rfl Try.func71 (by kernel_rfl) rfl #[.slice A0_6 l0_6.length c0_6, .int .i64 t102] rfl a11_ ?_; (with_reducible refine (laws_heldPartS.calls k _ _ l0_6 t102 t103 _ ?side1 ?side2 A8.out).mono ?_); (case side1 => repeat (first | exact (Kd.C_below HR0_6.out HB.out) | (with_reducible refine Kd.C_alloc ?_ _) | (with_reducible refine Kd.C_drewN ?_ _) | (with_reducible refine Kd.C_drew ?_))); (case side2 => exact HC0_6.out); rintro e w19 ⟨rfl, hb⟩; refine ⟨_, rfl, ?_⟩; have n0_ := mz (blk_below (g := gb101) (o := .cells #[.int .i64 a0_0, .string a0_1, .int .i64 a0_2, .int .i64 a0_3, .bool a0_4, .slice A0_5 l0_5.length c0_5, .slice A0_6 l0_6.length c0_6, .bool a0_7] 45 (0, 0)) a14_ hb); have n1_ := mz (bs2_ hb); clear BK101; clear HB; have BK101 := n0_; have HB := n1_; clear n0_ n1_; (try clear hb); (try clear hb2); (try clear hk); (try clear hi)))
   go_ret
   exact ⟨a27_, a8_⟩
end
abbrev LClient := S42
def BigC (y : LClient) : Prop := y.f1.size ≤ maxLen ∧ (y.f5.length ≤ maxLen ∧ ∀ p ∈ y.f5, p.f1.size ≤ maxLen ∧ p.f2.size ≤ maxLen) ∧ y.f6.length ≤ maxLen ∧ ∀ p ∈ y.f6, p.f1.size ≤ maxLen ∧ p.f2.size ≤ maxLen
theorem szClient_ev (y : LClient) (hB : BigC y) (left : Int) (h0 : 0 ≤ left) (h1 : left ≤ 1048576) :
  ∃ r, Ev (fun k => laws_szClient.f k y.f0 y.f1 y.f2 y.f3 y.f4 y.f5 y.f6 y.f7 left) r ∧ r ≤ left ∧ (0 ≤ r → y.f1.size ≤ 1048576 ∧ y.f5.length ≤ 1048576 ∧ smallP y.f5 ∧ y.f6.length ≤ 1048576 ∧ smallP y.f6) := by
 obtain ⟨b1, ⟨b5, b5'⟩, b6, b6'⟩ := hB
 have b1' := b1
 simp only [maxLen] at b1'
 unfold laws_szClient.f
 rw [w64 (n := left - (y.f1.size : Int)) (by omega) (by omega)]
 by_cases x : left - (y.f1.size : Int) < 0
 ·simp only [if_pos x]
  exact ⟨-1, Ev.now _, by omega, fun h => by omega⟩
 ·simp only [if_neg x]
  obtain ⟨r, hr, h2, h3⟩ := szPartS_ev y.f5 b5 b5' (left - (y.f1.size : Int)) (by omega) (by omega)
  by_cases a : r < 0
  ·refine ⟨-1, Ev.bind hr ?_, by omega, fun h => by omega⟩
   simp only [if_pos a]; exact Ev.now _
  ·obtain ⟨r', hr', h2', h3'⟩ := szPartS_ev y.f6 b6 b6' r (by omega) (by omega)
   by_cases a' : r' < 0
   ·refine ⟨-1, Ev.bind hr ?_, by omega, fun h => by omega⟩
    simp only [if_neg a]
    refine Ev.bind hr' ?_
    simp only [if_pos a']; exact Ev.now _
   ·refine ⟨r', Ev.bind hr ?_, by omega, fun h => ⟨by omega, (h3 (by omega)).1, (h3 (by omega)).2, (h3' (by omega)).1, (h3' (by omega)).2⟩⟩
    simp only [if_neg a]
    refine Ev.bind hr' ?_
    simp only [if_neg a']; exact Ev.now _
theorem toClient_ev (y : LClient) (h5 : y.f5.length ≤ 1048576) (h6 : y.f6.length ≤ 1048576) : Ev (fun k => laws_toClient.f k y.f0 y.f1 y.f2 y.f3 y.f4 y.f5 y.f6 y.f7) (y.f0, y.f1, y.f2, y.f3, y.f4, opOf y.f5, opOf y.f6, y.f7) := by
 unfold laws_toClient.f
 exact Ev.bind (toPartS_ev y.f5 h5) (Ev.bind (toPartS_ev y.f6 h6) (Ev.now _))
theorem opOf_sized (a : List LPart) (h : smallP a) : sizedP (opOf a) = true := sizedP_mk (fun q hq => by
 simp only [opOf, List.mem_map] at hq
 obtain ⟨x, hx, rfl⟩ := hq
 have := h x hx
 simp only [partOf, maxLen]; omega)
theorem markClient_ev (i : Int) (t : ByteArray) (v q : Int) (b : Bool) (s5 s6 : List Part) (d : Bool) (hb : 1 + 3 * (s5.length : Int) + 3 * (s6.length : Int) ≤ 4000000000000000) :
  Ev (fun k => laws_markClient.f k i t v q b s5 s6 d 1) (1 + 3 * (s5.length : Int) + 3 * (s6.length : Int), markP 1 s5, markP (1 + 3 * (s5.length : Int)) s6) := by
 unfold laws_markClient.f
 exact Ev.bind (markPartS_ev s5 1 (by omega) (by omega)) (Ev.bind (markPartS_ev s6 (1 + 3 * (s5.length : Int)) (by omega) (by omega)) (Ev.now _))
theorem heldClient_ev (i : Int) (t : ByteArray) (v q : Int) (b : Bool) (s5 s6 : List Part) (d : Bool) (hb : 1 + 3 * (s5.length : Int) + 3 * (s6.length : Int) ≤ 4000000000000000) :
  Ev (fun k => laws_heldClient.f k i t v q b (markP 1 s5) (markP (1 + 3 * (s5.length : Int)) s6) d 1) (1 + 3 * (s5.length : Int) + 3 * (s6.length : Int)) := by
 unfold laws_heldClient.f
 refine Ev.bind (heldPartS_ev 1 s5 (by omega) (by omega)) ?_
 simp only [if_neg (show ¬ (1 + 3 * (s5.length : Int) < 0) by omega)]
 refine Ev.bind (heldPartS_ev (1 + 3 * (s5.length : Int)) s6 (by omega) (by omega)) ?_
 simp only [if_neg (show ¬ (1 + 3 * (s5.length : Int) + 3 * (s6.length : Int) < 0) by omega)]
 exact Ev.now _
theorem goodC_len (c : Client) : (goodC c).2.2.2.2.2.1.length ≤ 60 ∧ (goodC c).2.2.2.2.2.2.1.length ≤ 60 := by
 unfold goodC
 split
 ·rename_i h
  have := clientB_of h
  exact ⟨(opB_of this.2.2.2.2.2.2.2.1).1, (opB_of this.2.2.2.2.2.2.2.2).1⟩
 ·exact ⟨Nat.zero_le _, Nat.zero_le _⟩
theorem heldC_at (i : Int) (t : ByteArray) (v q : Int) (b : Bool) (A : Option Addr) (c : Nat) (s5 : List Part) (A' : Option Addr) (c' : Nat) (s6 : List Part) (d : Bool) (w : World) (p p' : Nat → Prop) (base : Nat) (h5 : Kd.R k86 86 w base p (.slice A s5.length c) (markP 1 s5)) (h6 : Kd.R k86 86 w base p' (.slice A' s6.length c') (markP (1 + 3 * (s5.length : Int)) s6)) (K : Nat) (r : Int) (hK : laws_heldClient.f K i t v q b (markP 1 s5) (markP (1 + 3 * (s5.length : Int)) s6) d 1 = some r) :
  Calls Try.prog 25 #[.agg #[.int .i64 i, .string t, .int .i64 v, .int .i64 q, .bool b, .slice A s5.length c, .slice A' s6.length c', .bool d], .int .i64 1] w fun e w' => e = .returned (.int .i64 r) ∧ Below w.heap.size w w' := by
 obtain ⟨h1, h2, h3⟩ := Kd.R_reads' h5
 obtain ⟨g1, g2, g3⟩ := Kd.R_reads' h6
 have := laws_heldClient.calls K i t v q b A c (markP 1 s5) A' c' (markP (1 + 3 * (s5.length : Int)) s6) d 1 r w h3 (by rw [← h1]; exact h2) g3 (by rw [← g1]; exact g2) hK
 rwa [markP_length, markP_length] at this
section
attribute [local go_sem] max2_int min2_int max_two min_two max_three min_three max_four min_four
def laws_szEntry.f (k : Nat) (a0_0 : Int) (a0_1 : Int) (l0_2 : List (S78)) (a1 : Int) : Option (Int) := (laws_szPartS.f k l0_2 a1).bind fun t102 => (if t102 < 0 then (some (-1)) else (some t102))
set_option maxHeartbeats 8000000 in
set_option maxRecDepth 100000 in
theorem laws_szEntry.calls (k : Nat) (a0_0 : Int) (a0_1 : Int) (A0_2 : Option Addr) (c0_2 : Nat) (l0_2 : List (S78)) (a1 : Int) (r : Int) (w : World) (hr0_2 : Kd.C k78 w A0_2 l0_2.length l0_2) (hc0_2 : l0_2.length ≤ c0_2) (h : laws_szEntry.f k a0_0 a0_1 l0_2 a1 = some r) :
  Calls Try.prog 26 #[.agg #[.int .i64 a0_0, .int .i64 a0_1, .slice A0_2 l0_2.length c0_2], .int .i64 a1] w fun e w' => e = .returned (.int .i64 r) ∧ Below w.heap.size w w' := by
 have hu53 := Try.underlying53
 have HR0_2 := mz hr0_2
 have HC0_2 := mz hc0_2
 clear hr0_2 hc0_2
 have HB := mz (Below.refl w.heap.size w)
 have H : ((laws_szPartS.f k l0_2 a1).bind fun t102 => (if t102 < 0 then (some (-1)) else (some t102))) = some r := h
 clear h
 replace H := be0_ H
 obtain ⟨t102, A30, H⟩ := H
 replace H : (if t102 < 0 then (some (-1)) else (some t102)) = some r := H
 have A3 := mz A30
 clear A30
 by_cases c4 : t102 < 0
 ·rw [if_pos c4] at H
  have c4b0 : decide (t102 < 0) = true := decide_eq_true c4
  clear c4
  obtain rfl := Option.some.inj H
  go_enter Try.func26, Try.ntmps26
  go_wp2_with (first | ((with_reducible refine gate_dst (N := 2) rfl ?_); refine bz_ 2 #[.int .i64 a0_0, .int .i64 a0_1, .slice A0_2 l0_2.length c0_2] 53 ?_; intro gb101 hg w5 hbox hb; have n0_ := mz (bs0_ hb); have n1_ := mz (hbox); have n2_ := mz ((by rw [hg]; exact bz1_ : w.heap.size ≤ gb101)); have n3_ := mz ((by rw [hg]; exact bz1_ : w.heap.size ≤ gb101)); clear HB; have HB := n0_; have BK101 := n1_; have GW101 := n2_; have GE101 := n3_; clear n0_ n1_ n2_ n3_; clear hb hbox hg; have hcz6_0 := bk_ BK101.out 0 (.int .i64 a0_0); have hcz6_1 := bk_ BK101.out 1 (.int .i64 a0_1); have hcz6_2 := bk_ BK101.out 2 (.slice A0_2 l0_2.length c0_2); have hfz6_0 := blk_frozen BK101.out 0; have hfz6_1 := blk_frozen BK101.out 1; have hfz6_2 := blk_frozen BK101.out 2) | ((with_reducible refine gate_callee (f := 9) rfl ?_); refine goesL_ (some 8) rfl rfl Try.func9 (by kernel_rfl) rfl #[.slice A0_2 l0_2.length c0_2, .int .i64 a1] rfl a11_ ?_; (with_reducible refine (laws_szPartS.calls k _ _ l0_2 a1 t102 _ ?side1 ?side2 A3.out).mono ?_); (case side1 => repeat (first | exact (Kd.C_below HR0_2.out HB.out) | (with_reducible refine Kd.C_alloc ?_ _) | (with_reducible refine Kd.C_drewN ?_ _) | (with_reducible refine Kd.C_drew ?_))); (case side2 => exact HC0_2.out); rintro e w7 ⟨rfl, hb⟩; refine ⟨_, rfl, ?_⟩; have n0_ := mz (blk_below (g := gb101) (o := .cells #[.int .i64 a0_0, .int .i64 a0_1, .slice A0_2 l0_2.length c0_2] 53 (0, 0)) a14_ hb); have n1_ := mz (bs2_ hb); clear BK101; clear HB; have BK101 := n0_; have HB := n1_; clear n0_ n1_; (try clear hb); (try clear hb2); (try clear hk); (try clear hi)))
  go_ret
  exact ⟨a27_, a8_⟩
 ·rw [if_neg c4] at H
  have c4b0 : decide (t102 < 0) = false := decide_eq_false c4
  clear c4
  obtain rfl := Option.some.inj H
  go_enter Try.func26, Try.ntmps26
  go_wp2_with (first | ((with_reducible refine gate_dst (N := 2) rfl ?_); refine bz_ 2 #[.int .i64 a0_0, .int .i64 a0_1, .slice A0_2 l0_2.length c0_2] 53 ?_; intro gb101 hg w8 hbox hb; have n0_ := mz (bs0_ hb); have n1_ := mz (hbox); have n2_ := mz ((by rw [hg]; exact bz1_ : w.heap.size ≤ gb101)); have n3_ := mz ((by rw [hg]; exact bz1_ : w.heap.size ≤ gb101)); clear HB; have HB := n0_; have BK101 := n1_; have GW101 := n2_; have GE101 := n3_; clear n0_ n1_ n2_ n3_; clear hb hbox hg; have hcz9_0 := bk_ BK101.out 0 (.int .i64 a0_0); have hcz9_1 := bk_ BK101.out 1 (.int .i64 a0_1); have hcz9_2 := bk_ BK101.out 2 (.slice A0_2 l0_2.length c0_2); have hfz9_0 := blk_frozen BK101.out 0; have hfz9_1 := blk_frozen BK101.out 1; have hfz9_2 := blk_frozen BK101.out 2) | ((with_reducible refine gate_callee (f := 9) rfl ?_); refine goesL_ (some 8) rfl rfl Try.func9 (by kernel_rfl) rfl #[.slice A0_2 l0_2.length c0_2, .int .i64 a1] rfl a11_ ?_; (with_reducible refine (laws_szPartS.calls k _ _ l0_2 a1 t102 _ ?side1 ?side2 A3.out).mono ?_); (case side1 => repeat (first | exact (Kd.C_below HR0_2.out HB.out) | (with_reducible refine Kd.C_alloc ?_ _) | (with_reducible refine Kd.C_drewN ?_ _) | (with_reducible refine Kd.C_drew ?_))); (case side2 => exact HC0_2.out); rintro e w10 ⟨rfl, hb⟩; refine ⟨_, rfl, ?_⟩; have n0_ := mz (blk_below (g := gb101) (o := .cells #[.int .i64 a0_0, .int .i64 a0_1, .slice A0_2 l0_2.length c0_2] 53 (0, 0)) a14_ hb); have n1_ := mz (bs2_ hb); clear BK101; clear HB; have BK101 := n0_; have HB := n1_; clear n0_ n1_; (try clear hb); (try clear hb2); (try clear hk); (try clear hi)))
  go_ret
  exact ⟨a27_, a8_⟩
end
section
attribute [local go_sem] max2_int min2_int max_two min_two max_three min_three max_four min_four
def laws_toEntry.f (k : Nat) (a0_0 : Int) (a0_1 : Int) (l0_2 : List (S78)) : Option (Int × Int × (List (S86))) := (laws_toPartS.f k l0_2).bind fun t104 => (some (a0_0, a0_1, t104))
set_option maxHeartbeats 8000000 in
set_option maxRecDepth 100000 in
theorem laws_toEntry.calls (k : Nat) (a0_0 : Int) (a0_1 : Int) (A0_2 : Option Addr) (c0_2 : Nat) (l0_2 : List (S78)) (r1 : Int) (r2 : Int) (r3 : List (S86)) (w : World) (hr0_2 : Kd.C k78 w A0_2 l0_2.length l0_2) (hc0_2 : l0_2.length ≤ c0_2) (h : laws_toEntry.f k a0_0 a0_1 l0_2 = some (r1, r2, r3)) :
  Calls Try.prog 28 #[.agg #[.int .i64 a0_0, .int .i64 a0_1, .slice A0_2 l0_2.length c0_2]] w fun e w' => ∃ v2_ : Value, e = .returned (.agg #[.int .i64 r1, .int .i64 r2, v2_]) ∧ Kd.R k86 86 w' w.heap.size (fun _ => True) v2_ r3 ∧ Below w.heap.size w w' := by
 have hu53 := Try.underlying53
 have hu57 := Try.underlying57
 have HR0_2 := mz hr0_2
 have HC0_2 := mz hc0_2
 clear hr0_2 hc0_2
 have HB := mz (Below.refl w.heap.size w)
 have H : ((laws_toPartS.f k l0_2).bind fun t104 => (some (a0_0, a0_1, t104))) = some (r1, r2, r3) := h
 clear h
 replace H := be0_ H
 obtain ⟨t104, A20, H⟩ := H
 replace H : (some (a0_0, a0_1, t104)) = some (r1, r2, r3) := H
 have A2 := mz A20
 clear A20
 simp only [Option.some.injEq, Prod.mk.injEq] at H
 obtain ⟨rfl, rfl, rfl⟩ := H
 go_enter Try.func28, Try.ntmps28
 go_wp2_with (first | ((with_reducible refine gate_dst (N := 1) rfl ?_); refine bz_ 1 #[.int .i64 a0_0, .int .i64 a0_1, .slice A0_2 l0_2.length c0_2] 53 ?_; intro gb101 hg w3 hbox hb; have n0_ := mz (bs0_ hb); have n1_ := mz (hbox); have n2_ := mz ((by rw [hg]; exact bz1_ : w.heap.size ≤ gb101)); have n3_ := mz ((by rw [hg]; exact bz1_ : w.heap.size ≤ gb101)); clear HB; have HB := n0_; have BK101 := n1_; have GW101 := n2_; have GE101 := n3_; clear n0_ n1_ n2_ n3_; clear hb hbox hg) | ((with_reducible refine gate_dst (N := 2) rfl ?_); refine bz_ 2 #[.int .i64 0, .int .i64 0, .slice none 0 0] 57 ?_; intro gb102 hg w4 hbox hb; have n0_ := mz (blk_below (g := gb101) (o := .cells #[.int .i64 a0_0, .int .i64 a0_1, .slice A0_2 l0_2.length c0_2] 53 (0, 0)) a14_ hb); have n1_ := mz (bs2_ hb); have n2_ := mz (hbox); have n3_ := mz ((by rw [hg]; exact bz5_ : w.heap.size ≤ gb102)); have n4_ := mz ((by rw [hg]; exact bz5_ : w.heap.size ≤ gb102)); have n5_ := mz ((by rw [hg]; exact Nat.ne_of_lt (blk_lt (g := gb101) (o := .cells #[.int .i64 a0_0, .int .i64 a0_1, .slice A0_2 l0_2.length c0_2] 53 (0, 0)) a14_) : gb101 ≠ gb102)); have n6_ := mz ((by rw [hg]; exact Nat.ne_of_gt (blk_lt (g := gb101) (o := .cells #[.int .i64 a0_0, .int .i64 a0_1, .slice A0_2 l0_2.length c0_2] 53 (0, 0)) a14_) : gb102 ≠ gb101)); clear BK101; clear HB; have BK101 := n0_; have HB := n1_; have BK102 := n2_; have GW102 := n3_; have GE102 := n4_; have NB101_102 := n5_; have NB102_101 := n6_; clear n0_ n1_ n2_ n3_ n4_ n5_ n6_; clear hb hbox hg) | ((with_reducible refine gate_dst (N := 3) rfl ?_); refine bz_ 3 #[.int .i64 0, .int .i64 0, .slice none 0 0] 57 ?_; intro gb103 hg w5 hbox hb; have n0_ := mz (blk_below (g := gb101) (o := .cells #[.int .i64 a0_0, .int .i64 a0_1, .slice A0_2 l0_2.length c0_2] 53 (0, 0)) a14_ hb); have n1_ := mz (blk_below (g := gb102) (o := .cells #[.int .i64 0, .int .i64 0, .slice none 0 0] 57 (0, 0)) a15_ hb); have n2_ := mz (bs4_ hb); have n3_ := mz (hbox); have n4_ := mz ((by rw [hg]; exact bz6_ : w.heap.size ≤ gb103)); have n5_ := mz ((by rw [hg]; exact bz6_ : w.heap.size ≤ gb103)); have n6_ := mz ((by rw [hg]; exact Nat.ne_of_lt (blk_lt (g := gb101) (o := .cells #[.int .i64 a0_0, .int .i64 a0_1, .slice A0_2 l0_2.length c0_2] 53 (0, 0)) a14_) : gb101 ≠ gb103)); have n7_ := mz ((by rw [hg]; exact Nat.ne_of_gt (blk_lt (g := gb101) (o := .cells #[.int .i64 a0_0, .int .i64 a0_1, .slice A0_2 l0_2.length c0_2] 53 (0, 0)) a14_) : gb103 ≠ gb101)); have n8_ := mz ((by rw [hg]; exact Nat.ne_of_lt (blk_lt (g := gb102) (o := .cells #[.int .i64 0, .int .i64 0, .slice none 0 0] 57 (0, 0)) a15_) : gb102 ≠ gb103)); have n9_ := mz ((by rw [hg]; exact Nat.ne_of_gt (blk_lt (g := gb102) (o := .cells #[.int .i64 0, .int .i64 0, .slice none 0 0] 57 (0, 0)) a15_) : gb103 ≠ gb102)); clear BK101; clear BK102; clear HB; have BK101 := n0_; have BK102 := n1_; have HB := n2_; have BK103 := n3_; have GW103 := n4_; have GE103 := n5_; have NB101_103 := n6_; have NB103_101 := n7_; have NB102_103 := n8_; have NB103_102 := n9_; clear n0_ n1_ n2_ n3_ n4_ n5_ n6_ n7_ n8_ n9_; clear hb hbox hg; have hnb6 := NB101_102.out; have hnc6 := NB102_101.out; have hnb7 := NB101_103.out; have hnc7 := NB103_101.out; have hcz8_0 := bk_ BK101.out 0 (.int .i64 a0_0); have hcz8_1 := bk_ BK101.out 1 (.int .i64 a0_1); have hcz8_2 := bk_ BK101.out 2 (.slice A0_2 l0_2.length c0_2); have hfz8_0 := blk_frozen BK101.out 0; have hfz8_1 := blk_frozen BK101.out 1; have hfz8_2 := blk_frozen BK101.out 2; have hnb9 := NB103_102.out; have hnc9 := NB102_103.out; have hcz10_0 := bk_ BK103.out 0 (.int .i64 0); have hcz10_1 := bk_ BK103.out 1 (.int .i64 0); have hcz10_2 := bk_ BK103.out 2 (.slice none 0 0); have hfz10_0 := blk_frozen BK103.out 0; have hfz10_1 := blk_frozen BK103.out 1; have hfz10_2 := blk_frozen BK103.out 2) | ((with_reducible refine gate_callee (f := 12) rfl ?_); refine goesL_ (some 12) rfl rfl Try.func12 (by kernel_rfl) rfl #[.slice A0_2 l0_2.length c0_2] rfl a11_ ?_; (with_reducible refine (laws_toPartS.calls k _ _ l0_2 t104 _ ?side1 ?side2 A2.out).mono ?_); (case side1 => exact Kd.C_below HR0_2.out a3_); (case side2 => exact HC0_2.out); rintro e w11 ⟨v105, rfl, ho0, hb⟩; refine ⟨_, rfl, ?_⟩; have n0_ := mz (Kd.R_lower ho0 bz8_); have n1_ := mz (blk_below (g := gb101) (o := .cells #[.int .i64 a0_0, .int .i64 a0_1, .slice A0_2 l0_2.length c0_2] 53 (0, 0)) (by (with_reducible repeat (first | refine blk_drewN ?_ _ | refine blk_drew ?_ | refine blk_alloc ?_ _)); refine blk_far ?_ NB101_103.out _; (with_reducible repeat (first | refine blk_drewN ?_ _ | refine blk_drew ?_ | refine blk_alloc ?_ _)); refine blk_far ?_ NB101_103.out _; (with_reducible repeat (first | refine blk_drewN ?_ _ | refine blk_drew ?_ | refine blk_alloc ?_ _)); exact BK101.out) hb); have n2_ := mz (blk_below (g := gb102) (o := .cells #[.int .i64 0, .int .i64 0, .slice none 0 0] 57 (0, 0)) (by (with_reducible repeat (first | refine blk_drewN ?_ _ | refine blk_drew ?_ | refine blk_alloc ?_ _)); refine blk_far ?_ NB102_103.out _; (with_reducible repeat (first | refine blk_drewN ?_ _ | refine blk_drew ?_ | refine blk_alloc ?_ _)); refine blk_far ?_ NB102_103.out _; (with_reducible repeat (first | refine blk_drewN ?_ _ | refine blk_drew ?_ | refine blk_alloc ?_ _)); exact BK102.out) hb); have n3_ := mz (blk_below (g := gb103) (o := .cells #[.int .i64 a0_0, .int .i64 a0_1, .slice none 0 0] 57 (0, 0)) (by (with_reducible repeat (first | refine blk_drewN ?_ _ | refine blk_drew ?_ | refine blk_alloc ?_ _)); refine blk_put (cs := #[.int .i64 a0_0, .int .i64 0, .slice none 0 0]) ?_ 1 _ rfl; (with_reducible repeat (first | refine blk_drewN ?_ _ | refine blk_drew ?_ | refine blk_alloc ?_ _)); refine blk_put (cs := #[.int .i64 0, .int .i64 0, .slice none 0 0]) ?_ 0 _ rfl; (with_reducible repeat (first | refine blk_drewN ?_ _ | refine blk_drew ?_ | refine blk_alloc ?_ _)); exact BK103.out) hb); have n4_ := mz (bs7_ hb); clear BK101; clear BK102; clear BK103; clear HB; have HO106 := n0_; have BK101 := n1_; have BK102 := n2_; have BK103 := n3_; have HB := n4_; clear n0_ n1_ n2_ n3_ n4_; (try clear hb); (try clear hb2); (try clear hk); (try clear hi); (try clear ho0); obtain ⟨Ao12, co12, eo12⟩ := Kd.R_slice HO106.out; subst eo12; have hcz13_0 := bk_ BK103.out 0 (.int .i64 a0_0); have hcz13_1 := bk_ BK103.out 1 (.int .i64 a0_1); have hcz13_2 := bk_ BK103.out 2 (.slice none 0 0); have hfz13_0 := blk_frozen BK103.out 0; have hfz13_1 := blk_frozen BK103.out 1; have hfz13_2 := blk_frozen BK103.out 2; have hcz14_0 := bk_ BK102.out 0 (.int .i64 0); have hcz14_1 := bk_ BK102.out 1 (.int .i64 0); have hcz14_2 := bk_ BK102.out 2 (.slice none 0 0); have hfz14_0 := blk_frozen BK102.out 0; have hfz14_1 := blk_frozen BK102.out 1; have hfz14_2 := blk_frozen BK102.out 2))
 refine bodyPost_ret (results_cell_row rfl _ _ gb102 57 #[.int .i64 a0_0, .int .i64 a0_1, .slice Ao12 t104.length co12] (0, 0) _ rfl (by (with_reducible repeat (first | refine blk_drewN ?_ _ | refine blk_drew ?_ | refine blk_alloc ?_ _)); refine blk_put (cs := #[.int .i64 a0_0, .int .i64 a0_1, .slice none 0 0]) ?_ 2 _ rfl; (with_reducible repeat (first | refine blk_drewN ?_ _ | refine blk_drew ?_ | refine blk_alloc ?_ _)); refine blk_put (cs := #[.int .i64 a0_0, .int .i64 0, .slice none 0 0]) ?_ 1 _ rfl; (with_reducible repeat (first | refine blk_drewN ?_ _ | refine blk_drew ?_ | refine blk_alloc ?_ _)); refine blk_put (cs := #[.int .i64 0, .int .i64 0, .slice none 0 0]) ?_ 0 _ rfl; (with_reducible repeat (first | refine blk_drewN ?_ _ | refine blk_drew ?_ | refine blk_alloc ?_ _)); refine blk_far ?_ NB102_103.out _; (with_reducible repeat (first | refine blk_drewN ?_ _ | refine blk_drew ?_ | refine blk_alloc ?_ _)); exact BK102.out) Try.underlying57 rfl (by kernel_rfl)) rfl ?_
 exact ⟨_, by first | rfl | (simp [errW_none, errW_some] <;> rfl) | (simp [*, errW_none, errW_some] <;> rfl), by (with_reducible repeat (first | apply Kd.R_alloc | apply Kd.R_drewN | apply Kd.R_drew)); exact Kd.R_mono (Kd.R_far (p := ⟨gb102, 2, none⟩) (Kd.R_far (p := ⟨gb102, 1, none⟩) (Kd.R_far (p := ⟨gb102, 0, none⟩) (Kd.R_far (p := ⟨gb103, 2, none⟩) (Kd.R_types (Kd.R_types HO106.out BK103.out (by decide)) BK102.out (by decide)) (fun _ hk => hk.1.2) (.slice Ao12 t104.length co12)) (fun _ hk => hk.2) (.int .i64 a0_0)) (fun _ hk => hk.2) (.int .i64 a0_1)) (fun _ hk => hk.2) (.slice Ao12 t104.length co12)) (fun _ hk => trivial), by repeat (first | (with_reducible first | exact HB.out | apply below_alloc | apply pw_below_drewN | apply below_drew1 | refine below_set ?_ GE101.out | refine below_set ?_ GE102.out | refine below_set ?_ GE103.out) | exact HB.out)⟩
end
section
attribute [local go_sem] max2_int min2_int max_two min_two max_three min_three max_four min_four
def laws_eqEntry.f (k : Nat) (a0_0 : Int) (a0_1 : Int) (l0_2 : List (S86)) (a1_0 : Int) (a1_1 : Int) (l1_2 : List (S86)) : Option (Bool) := if a0_0 = a1_0 then (if a0_1 = a1_1 then ((laws_eqPartS.f k l0_2 l1_2).bind fun t103 => (if t103 = true then (some true) else (some false))) else (some false)) else (some false)
set_option maxHeartbeats 8000000 in
set_option maxRecDepth 100000 in
theorem laws_eqEntry.calls (k : Nat) (a0_0 : Int) (a0_1 : Int) (A0_2 : Option Addr) (c0_2 : Nat) (l0_2 : List (S86)) (a1_0 : Int) (a1_1 : Int) (A1_2 : Option Addr) (c1_2 : Nat) (l1_2 : List (S86)) (r : Bool) (w : World) (hr0_2 : Kd.C k86 w A0_2 l0_2.length l0_2) (hc0_2 : l0_2.length ≤ c0_2) (hr1_2 : Kd.C k86 w A1_2 l1_2.length l1_2) (hc1_2 : l1_2.length ≤ c1_2) (h : laws_eqEntry.f k a0_0 a0_1 l0_2 a1_0 a1_1 l1_2 = some r) :
  Calls Try.prog 30 #[.agg #[.int .i64 a0_0, .int .i64 a0_1, .slice A0_2 l0_2.length c0_2], .agg #[.int .i64 a1_0, .int .i64 a1_1, .slice A1_2 l1_2.length c1_2]] w fun e w' => e = .returned (.bool r) ∧ Below w.heap.size w w' := by
 have hu57 := Try.underlying57
 have HR0_2 := mz hr0_2
 have HC0_2 := mz hc0_2
 clear hr0_2 hc0_2
 have HR1_2 := mz hr1_2
 have HC1_2 := mz hc1_2
 clear hr1_2 hc1_2
 have HB := mz (Below.refl w.heap.size w)
 have H : (if a0_0 = a1_0 then (if a0_1 = a1_1 then ((laws_eqPartS.f k l0_2 l1_2).bind fun t103 => (if t103 = true then (some true) else (some false))) else (some false)) else (some false)) = some r := h
 clear h
 by_cases c3 : a0_0 = a1_0
 ·rw [if_pos c3] at H
  have c3b0 : (a0_0 == a1_0) = true := beq_iff_eq.mpr c3
  have c3b1 : (a0_0 != a1_0) = false := bne_eq_false_iff_eq.mpr c3
  clear c3
  by_cases c4 : a0_1 = a1_1
  ·rw [if_pos c4] at H
   have c4b0 : (a0_1 == a1_1) = true := beq_iff_eq.mpr c4
   have c4b1 : (a0_1 != a1_1) = false := bne_eq_false_iff_eq.mpr c4
   clear c4
   replace H := be0_ H
   obtain ⟨t103, A50, H⟩ := H
   replace H : (if t103 = true then (some true) else (some false)) = some r := H
   have A5 := mz A50
   clear A50
   by_cases c6 : t103 = true
   ·subst c6
    have H1 : (some true) = some r := by rw [if_pos rfl] at H; exact H
    clear H
    have H := H1
    clear H1
    obtain rfl := Option.some.inj H
    go_enter Try.func30, Try.ntmps30
    go_wp2_with (first | ((with_reducible refine gate_dst (N := 2) rfl ?_); refine bz_ 2 #[.int .i64 a0_0, .int .i64 a0_1, .slice A0_2 l0_2.length c0_2] 57 ?_; intro gb101 hg w7 hbox hb; have n0_ := mz (bs0_ hb); have n1_ := mz (hbox); have n2_ := mz ((by rw [hg]; exact bz1_ : w.heap.size ≤ gb101)); have n3_ := mz ((by rw [hg]; exact bz1_ : w.heap.size ≤ gb101)); clear HB; have HB := n0_; have BK101 := n1_; have GW101 := n2_; have GE101 := n3_; clear n0_ n1_ n2_ n3_; clear hb hbox hg) | ((with_reducible refine gate_dst (N := 3) rfl ?_); refine bz_ 3 #[.int .i64 a1_0, .int .i64 a1_1, .slice A1_2 l1_2.length c1_2] 57 ?_; intro gb102 hg w8 hbox hb; have n0_ := mz (blk_below (g := gb101) (o := .cells #[.int .i64 a0_0, .int .i64 a0_1, .slice A0_2 l0_2.length c0_2] 57 (0, 0)) a14_ hb); have n1_ := mz (bs2_ hb); have n2_ := mz (hbox); have n3_ := mz ((by rw [hg]; exact bz5_ : w.heap.size ≤ gb102)); have n4_ := mz ((by rw [hg]; exact bz5_ : w.heap.size ≤ gb102)); have n5_ := mz ((by rw [hg]; exact Nat.ne_of_lt (blk_lt (g := gb101) (o := .cells #[.int .i64 a0_0, .int .i64 a0_1, .slice A0_2 l0_2.length c0_2] 57 (0, 0)) a14_) : gb101 ≠ gb102)); have n6_ := mz ((by rw [hg]; exact Nat.ne_of_gt (blk_lt (g := gb101) (o := .cells #[.int .i64 a0_0, .int .i64 a0_1, .slice A0_2 l0_2.length c0_2] 57 (0, 0)) a14_) : gb102 ≠ gb101)); clear BK101; clear HB; have BK101 := n0_; have HB := n1_; have BK102 := n2_; have GW102 := n3_; have GE102 := n4_; have NB101_102 := n5_; have NB102_101 := n6_; clear n0_ n1_ n2_ n3_ n4_ n5_ n6_; clear hb hbox hg; have hnb9 := NB101_102.out; have hnc9 := NB102_101.out; have hcz10_0 := bk_ BK101.out 0 (.int .i64 a0_0); have hcz10_1 := bk_ BK101.out 1 (.int .i64 a0_1); have hcz10_2 := bk_ BK101.out 2 (.slice A0_2 l0_2.length c0_2); have hfz10_0 := blk_frozen BK101.out 0; have hfz10_1 := blk_frozen BK101.out 1; have hfz10_2 := blk_frozen BK101.out 2; have hcz11_0 := bk_ BK102.out 0 (.int .i64 a1_0); have hcz11_1 := bk_ BK102.out 1 (.int .i64 a1_1); have hcz11_2 := bk_ BK102.out 2 (.slice A1_2 l1_2.length c1_2); have hfz11_0 := blk_frozen BK102.out 0; have hfz11_1 := blk_frozen BK102.out 1; have hfz11_2 := blk_frozen BK102.out 2) | ((with_reducible refine gate_callee (f := 15) rfl ?_); refine goesL_ (some 19) rfl rfl Try.func15 (by kernel_rfl) rfl #[.slice A0_2 l0_2.length c0_2, .slice A1_2 l1_2.length c1_2] rfl a11_ ?_; (with_reducible refine (laws_eqPartS.calls k _ _ l0_2 _ _ l1_2 true _ ?side1 ?side2 ?side3 ?side4 A5.out).mono ?_); (case side1 => repeat (first | exact (Kd.C_below HR0_2.out HB.out) | (with_reducible refine Kd.C_alloc ?_ _) | (with_reducible refine Kd.C_drewN ?_ _) | (with_reducible refine Kd.C_drew ?_))); (case side2 => exact HC0_2.out); (case side3 => repeat (first | exact (Kd.C_below HR1_2.out HB.out) | (with_reducible refine Kd.C_alloc ?_ _) | (with_reducible refine Kd.C_drewN ?_ _) | (with_reducible refine Kd.C_drew ?_))); (case side4 => exact HC1_2.out); rintro e w12 ⟨rfl, hb⟩; refine ⟨_, rfl, ?_⟩; have n0_ := mz (blk_below (g := gb101) (o := .cells #[.int .i64 a0_0, .int .i64 a0_1, .slice A0_2 l0_2.length c0_2] 57 (0, 0)) a14_ hb); have n1_ := mz (blk_below (g := gb102) (o := .cells #[.int .i64 a1_0, .int .i64 a1_1, .slice A1_2 l1_2.length c1_2] 57 (0, 0)) a15_ hb); have n2_ := mz (bs4_ hb); clear BK101; clear BK102; clear HB; have BK101 := n0_; have BK102 := n1_; have HB := n2_; clear n0_ n1_ n2_; (try clear hb); (try clear hb2); (try clear hk); (try clear hi)))
    go_ret
    exact ⟨a27_, a6_⟩
   ·replace c6 := Bool.eq_false_iff.mpr c6
    subst c6
    have H1 : (some false) = some r := by rw [if_neg (show ¬ (false = true) by decide)] at H; exact H
    clear H
    have H := H1
    clear H1
    obtain rfl := Option.some.inj H
    go_enter Try.func30, Try.ntmps30
    go_wp2_with (first | ((with_reducible refine gate_dst (N := 2) rfl ?_); refine bz_ 2 #[.int .i64 a0_0, .int .i64 a0_1, .slice A0_2 l0_2.length c0_2] 57 ?_; intro gb101 hg w13 hbox hb; have n0_ := mz (bs0_ hb); have n1_ := mz (hbox); have n2_ := mz ((by rw [hg]; exact bz1_ : w.heap.size ≤ gb101)); have n3_ := mz ((by rw [hg]; exact bz1_ : w.heap.size ≤ gb101)); clear HB; have HB := n0_; have BK101 := n1_; have GW101 := n2_; have GE101 := n3_; clear n0_ n1_ n2_ n3_; clear hb hbox hg) | ((with_reducible refine gate_dst (N := 3) rfl ?_); refine bz_ 3 #[.int .i64 a1_0, .int .i64 a1_1, .slice A1_2 l1_2.length c1_2] 57 ?_; intro gb102 hg w14 hbox hb; have n0_ := mz (blk_below (g := gb101) (o := .cells #[.int .i64 a0_0, .int .i64 a0_1, .slice A0_2 l0_2.length c0_2] 57 (0, 0)) a14_ hb); have n1_ := mz (bs2_ hb); have n2_ := mz (hbox); have n3_ := mz ((by rw [hg]; exact bz5_ : w.heap.size ≤ gb102)); have n4_ := mz ((by rw [hg]; exact bz5_ : w.heap.size ≤ gb102)); have n5_ := mz ((by rw [hg]; exact Nat.ne_of_lt (blk_lt (g := gb101) (o := .cells #[.int .i64 a0_0, .int .i64 a0_1, .slice A0_2 l0_2.length c0_2] 57 (0, 0)) a14_) : gb101 ≠ gb102)); have n6_ := mz ((by rw [hg]; exact Nat.ne_of_gt (blk_lt (g := gb101) (o := .cells #[.int .i64 a0_0, .int .i64 a0_1, .slice A0_2 l0_2.length c0_2] 57 (0, 0)) a14_) : gb102 ≠ gb101)); clear BK101; clear HB; have BK101 := n0_; have HB := n1_; have BK102 := n2_; have GW102 := n3_; have GE102 := n4_; have NB101_102 := n5_; have NB102_101 := n6_; clear n0_ n1_ n2_ n3_ n4_ n5_ n6_; clear hb hbox hg; have hnb15 := NB101_102.out; have hnc15 := NB102_101.out; have hcz16_0 := bk_ BK101.out 0 (.int .i64 a0_0); have hcz16_1 := bk_ BK101.out 1 (.int .i64 a0_1); have hcz16_2 := bk_ BK101.out 2 (.slice A0_2 l0_2.length c0_2); have hfz16_0 := blk_frozen BK101.out 0; have hfz16_1 := blk_frozen BK101.out 1; have hfz16_2 := blk_frozen BK101.out 2; have hcz17_0 := bk_ BK102.out 0 (.int .i64 a1_0); have hcz17_1 := bk_ BK102.out 1 (.int .i64 a1_1); have hcz17_2 := bk_ BK102.out 2 (.slice A1_2 l1_2.length c1_2); have hfz17_0 := blk_frozen BK102.out 0; have hfz17_1 := blk_frozen BK102.out 1; have hfz17_2 := blk_frozen BK102.out 2) | ((with_reducible refine gate_callee (f := 15) rfl ?_); refine goesL_ (some 19) rfl rfl Try.func15 (by kernel_rfl) rfl #[.slice A0_2 l0_2.length c0_2, .slice A1_2 l1_2.length c1_2] rfl a11_ ?_; (with_reducible refine (laws_eqPartS.calls k _ _ l0_2 _ _ l1_2 false _ ?side1 ?side2 ?side3 ?side4 A5.out).mono ?_); (case side1 => repeat (first | exact (Kd.C_below HR0_2.out HB.out) | (with_reducible refine Kd.C_alloc ?_ _) | (with_reducible refine Kd.C_drewN ?_ _) | (with_reducible refine Kd.C_drew ?_))); (case side2 => exact HC0_2.out); (case side3 => repeat (first | exact (Kd.C_below HR1_2.out HB.out) | (with_reducible refine Kd.C_alloc ?_ _) | (with_reducible refine Kd.C_drewN ?_ _) | (with_reducible refine Kd.C_drew ?_))); (case side4 => exact HC1_2.out); rintro e w18 ⟨rfl, hb⟩; refine ⟨_, rfl, ?_⟩; have n0_ := mz (blk_below (g := gb101) (o := .cells #[.int .i64 a0_0, .int .i64 a0_1, .slice A0_2 l0_2.length c0_2] 57 (0, 0)) a14_ hb); have n1_ := mz (blk_below (g := gb102) (o := .cells #[.int .i64 a1_0, .int .i64 a1_1, .slice A1_2 l1_2.length c1_2] 57 (0, 0)) a15_ hb); have n2_ := mz (bs4_ hb); clear BK101; clear BK102; clear HB; have BK101 := n0_; have BK102 := n1_; have HB := n2_; clear n0_ n1_ n2_; (try clear hb); (try clear hb2); (try clear hk); (try clear hi)))
    go_ret
    exact ⟨a27_, a6_⟩
  ·rw [if_neg c4] at H
   have c4b0 : (a0_1 == a1_1) = false := beq_eq_false_iff_ne.mpr c4
   have c4b1 : (a0_1 != a1_1) = true := bne_iff_ne.mpr c4
   obtain rfl := Option.some.inj H
   go_enter Try.func30, Try.ntmps30
   go_wp2_with (first | ((with_reducible refine gate_dst (N := 2) rfl ?_); refine bz_ 2 #[.int .i64 a0_0, .int .i64 a0_1, .slice A0_2 l0_2.length c0_2] 57 ?_; intro gb101 hg w19 hbox hb; have n0_ := mz (bs0_ hb); have n1_ := mz (hbox); have n2_ := mz ((by rw [hg]; exact bz1_ : w.heap.size ≤ gb101)); have n3_ := mz ((by rw [hg]; exact bz1_ : w.heap.size ≤ gb101)); clear HB; have HB := n0_; have BK101 := n1_; have GW101 := n2_; have GE101 := n3_; clear n0_ n1_ n2_ n3_; clear hb hbox hg) | ((with_reducible refine gate_dst (N := 3) rfl ?_); refine bz_ 3 #[.int .i64 a1_0, .int .i64 a1_1, .slice A1_2 l1_2.length c1_2] 57 ?_; intro gb102 hg w20 hbox hb; have n0_ := mz (blk_below (g := gb101) (o := .cells #[.int .i64 a0_0, .int .i64 a0_1, .slice A0_2 l0_2.length c0_2] 57 (0, 0)) a14_ hb); have n1_ := mz (bs2_ hb); have n2_ := mz (hbox); have n3_ := mz ((by rw [hg]; exact bz5_ : w.heap.size ≤ gb102)); have n4_ := mz ((by rw [hg]; exact bz5_ : w.heap.size ≤ gb102)); have n5_ := mz ((by rw [hg]; exact Nat.ne_of_lt (blk_lt (g := gb101) (o := .cells #[.int .i64 a0_0, .int .i64 a0_1, .slice A0_2 l0_2.length c0_2] 57 (0, 0)) a14_) : gb101 ≠ gb102)); have n6_ := mz ((by rw [hg]; exact Nat.ne_of_gt (blk_lt (g := gb101) (o := .cells #[.int .i64 a0_0, .int .i64 a0_1, .slice A0_2 l0_2.length c0_2] 57 (0, 0)) a14_) : gb102 ≠ gb101)); clear BK101; clear HB; have BK101 := n0_; have HB := n1_; have BK102 := n2_; have GW102 := n3_; have GE102 := n4_; have NB101_102 := n5_; have NB102_101 := n6_; clear n0_ n1_ n2_ n3_ n4_ n5_ n6_; clear hb hbox hg; have hnb21 := NB101_102.out; have hnc21 := NB102_101.out; have hcz22_0 := bk_ BK101.out 0 (.int .i64 a0_0); have hcz22_1 := bk_ BK101.out 1 (.int .i64 a0_1); have hcz22_2 := bk_ BK101.out 2 (.slice A0_2 l0_2.length c0_2); have hfz22_0 := blk_frozen BK101.out 0; have hfz22_1 := blk_frozen BK101.out 1; have hfz22_2 := blk_frozen BK101.out 2; have hcz23_0 := bk_ BK102.out 0 (.int .i64 a1_0); have hcz23_1 := bk_ BK102.out 1 (.int .i64 a1_1); have hcz23_2 := bk_ BK102.out 2 (.slice A1_2 l1_2.length c1_2); have hfz23_0 := blk_frozen BK102.out 0; have hfz23_1 := blk_frozen BK102.out 1; have hfz23_2 := blk_frozen BK102.out 2))
   go_ret
   exact ⟨a27_, a6_⟩
 ·rw [if_neg c3] at H
  have c3b0 : (a0_0 == a1_0) = false := beq_eq_false_iff_ne.mpr c3
  have c3b1 : (a0_0 != a1_0) = true := bne_iff_ne.mpr c3
  obtain rfl := Option.some.inj H
  go_enter Try.func30, Try.ntmps30
  go_wp2_with (first | ((with_reducible refine gate_dst (N := 2) rfl ?_); refine bz_ 2 #[.int .i64 a0_0, .int .i64 a0_1, .slice A0_2 l0_2.length c0_2] 57 ?_; intro gb101 hg w24 hbox hb; have n0_ := mz (bs0_ hb); have n1_ := mz (hbox); have n2_ := mz ((by rw [hg]; exact bz1_ : w.heap.size ≤ gb101)); have n3_ := mz ((by rw [hg]; exact bz1_ : w.heap.size ≤ gb101)); clear HB; have HB := n0_; have BK101 := n1_; have GW101 := n2_; have GE101 := n3_; clear n0_ n1_ n2_ n3_; clear hb hbox hg) | ((with_reducible refine gate_dst (N := 3) rfl ?_); refine bz_ 3 #[.int .i64 a1_0, .int .i64 a1_1, .slice A1_2 l1_2.length c1_2] 57 ?_; intro gb102 hg w25 hbox hb; have n0_ := mz (blk_below (g := gb101) (o := .cells #[.int .i64 a0_0, .int .i64 a0_1, .slice A0_2 l0_2.length c0_2] 57 (0, 0)) a14_ hb); have n1_ := mz (bs2_ hb); have n2_ := mz (hbox); have n3_ := mz ((by rw [hg]; exact bz5_ : w.heap.size ≤ gb102)); have n4_ := mz ((by rw [hg]; exact bz5_ : w.heap.size ≤ gb102)); have n5_ := mz ((by rw [hg]; exact Nat.ne_of_lt (blk_lt (g := gb101) (o := .cells #[.int .i64 a0_0, .int .i64 a0_1, .slice A0_2 l0_2.length c0_2] 57 (0, 0)) a14_) : gb101 ≠ gb102)); have n6_ := mz ((by rw [hg]; exact Nat.ne_of_gt (blk_lt (g := gb101) (o := .cells #[.int .i64 a0_0, .int .i64 a0_1, .slice A0_2 l0_2.length c0_2] 57 (0, 0)) a14_) : gb102 ≠ gb101)); clear BK101; clear HB; have BK101 := n0_; have HB := n1_; have BK102 := n2_; have GW102 := n3_; have GE102 := n4_; have NB101_102 := n5_; have NB102_101 := n6_; clear n0_ n1_ n2_ n3_ n4_ n5_ n6_; clear hb hbox hg; have hnb26 := NB101_102.out; have hnc26 := NB102_101.out; have hcz27_0 := bk_ BK101.out 0 (.int .i64 a0_0); have hcz27_1 := bk_ BK101.out 1 (.int .i64 a0_1); have hcz27_2 := bk_ BK101.out 2 (.slice A0_2 l0_2.length c0_2); have hfz27_0 := blk_frozen BK101.out 0; have hfz27_1 := blk_frozen BK101.out 1; have hfz27_2 := blk_frozen BK101.out 2; have hcz28_0 := bk_ BK102.out 0 (.int .i64 a1_0); have hcz28_1 := bk_ BK102.out 1 (.int .i64 a1_1); have hcz28_2 := bk_ BK102.out 2 (.slice A1_2 l1_2.length c1_2); have hfz28_0 := blk_frozen BK102.out 0; have hfz28_1 := blk_frozen BK102.out 1; have hfz28_2 := blk_frozen BK102.out 2))
  go_ret
  exact ⟨a27_, a6_⟩
end
abbrev LEntry := S53
theorem szEntry_ev (e : LEntry) (hm : e.f2.length ≤ maxLen) (hB : ∀ p ∈ e.f2, p.f1.size ≤ maxLen ∧ p.f2.size ≤ maxLen) (left : Int) (h0 : 0 ≤ left) (h1 : left ≤ 1048576) :
  ∃ r, Ev (fun k => laws_szEntry.f k e.f0 e.f1 e.f2 left) r ∧ r ≤ left ∧ (0 ≤ r → e.f2.length ≤ 1048576 ∧ smallP e.f2) := by
 obtain ⟨r, hr, h2, h3⟩ := szPartS_ev e.f2 hm hB left h0 h1
 unfold laws_szEntry.f
 by_cases a : r < 0
 ·refine ⟨-1, Ev.bind hr ?_, by omega, fun h => by omega⟩
  simp only [if_pos a]; exact Ev.now _
 ·refine ⟨r, Ev.bind hr ?_, h2, h3⟩
  simp only [if_neg a]; exact Ev.now _
theorem toEntry_ev (e : LEntry) (h : e.f2.length ≤ 1048576) : Ev (fun k => laws_toEntry.f k e.f0 e.f1 e.f2) (e.f0, e.f1, opOf e.f2) := by
 unfold laws_toEntry.f
 exact Ev.bind (toPartS_ev e.f2 h) (Ev.now _)
theorem eqEntry_ev (e : Entry) (h : e.f2.length ≤ maxLen) : Ev (fun k => laws_eqEntry.f k e.f0 e.f1 e.f2 e.f0 e.f1 e.f2) true := by
 unfold laws_eqEntry.f
 simp only [if_true]
 refine Ev.bind (eqPartS_ev e.f2 h) ?_
 simp only [if_true]
 exact Ev.now _
section
attribute [local go_sem] max2_int min2_int max_two min_two max_three min_three max_four min_four
def spec_l16OwnClient.f (a0_0 : Int) (a0_1 : ByteArray) (a0_2 : Int) (a0_3 : Int) (a0_4 : Bool) (l0_5 : List (S86)) (l0_6 : List (S86)) (a0_7 : Bool) : Option (Int × ByteArray × Int × Int × Bool × (List (S86)) × (List (S86)) × Bool) := (some (([] : List (S86)) : List (S86))).bind fun y103 => (if y103.length + l0_5.length < 3518437208883 then ((some (([] : List (S86)) : List (S86))).bind fun y109 => (if y109.length + l0_6.length < 3518437208883 then (some (a0_0, a0_1, a0_2, a0_3, a0_4, (y103 ++ l0_5), (y109 ++ l0_6), a0_7)) else (none))) else (none))
set_option maxHeartbeats 8000000 in
set_option maxRecDepth 100000 in
theorem spec_l16OwnClient.calls (a0_0 : Int) (a0_1 : ByteArray) (a0_2 : Int) (a0_3 : Int) (a0_4 : Bool) (A0_5 : Option Addr) (c0_5 : Nat) (l0_5 : List (S86)) (A0_6 : Option Addr) (c0_6 : Nat) (l0_6 : List (S86)) (a0_7 : Bool) (r1 : Int) (r2 : ByteArray) (r3 : Int) (r4 : Int) (r5 : Bool) (r6 : List (S86)) (r7 : List (S86)) (r8 : Bool) (w : World) (hr0_5 : Kd.C k86 w A0_5 l0_5.length l0_5) (hc0_5 : l0_5.length ≤ c0_5) (hr0_6 : Kd.C k86 w A0_6 l0_6.length l0_6) (hc0_6 : l0_6.length ≤ c0_6) (h : spec_l16OwnClient.f a0_0 a0_1 a0_2 a0_3 a0_4 l0_5 l0_6 a0_7 = some (r1, r2, r3, r4, r5, r6, r7, r8)) :
  Calls Try.prog 61 #[.agg #[.int .i64 a0_0, .string a0_1, .int .i64 a0_2, .int .i64 a0_3, .bool a0_4, .slice A0_5 l0_5.length c0_5, .slice A0_6 l0_6.length c0_6, .bool a0_7]] w fun e w' => ∃ v5_ v6_ : Value, e = .returned (.agg #[.int .i64 r1, .string r2, .int .i64 r3, .int .i64 r4, .bool r5, v5_, v6_, .bool r8]) ∧ Kd.R k86 86 w' w.heap.size (fun k_ => some k_ ≠ (v6_ : Value).ownBlock) v5_ r6 ∧ Kd.R k86 86 w' w.heap.size (fun k_ => some k_ ≠ (v5_ : Value).ownBlock) v6_ r7 ∧ Below w.heap.size w w' := by
 have hu45 := Try.underlying45
 have HR0_5 := mz hr0_5
 have HC0_5 := mz hc0_5
 clear hr0_5 hc0_5
 have HR0_6 := mz hr0_6
 have HC0_6 := mz hc0_6
 clear hr0_6 hc0_6
 have HB := mz (Below.refl w.heap.size w)
 have H : ((some (([] : List (S86)) : List (S86))).bind fun y103 => (if y103.length + l0_5.length < 3518437208883 then ((some (([] : List (S86)) : List (S86))).bind fun y109 => (if y109.length + l0_6.length < 3518437208883 then (some (a0_0, a0_1, a0_2, a0_3, a0_4, (y103 ++ l0_5), (y109 ++ l0_6), a0_7)) else (none))) else (none))) = some (r1, r2, r3, r4, r5, r6, r7, r8) := h
 clear h
 obtain ⟨y103, hy103⟩ : ∃ y_ : List (S86), y_ = (([] : List (S86))) := ⟨_, rfl⟩
 replace H : (if y103.length + l0_5.length < 3518437208883 then ((some (([] : List (S86)) : List (S86))).bind fun y109 => (if y109.length + l0_6.length < 3518437208883 then (some (a0_0, a0_1, a0_2, a0_3, a0_4, (y103 ++ l0_5), (y109 ++ l0_6), a0_7)) else (none))) else (none)) = some (r1, r2, r3, r4, r5, r6, r7, r8) := by first | (rw [hy103]; with_reducible exact H) | (have H2_ := (Option.bind_some _ _).symm.trans H; rw [hy103]; with_reducible exact H2_) | (have H2_ := (Option.bind_some _ _).symm.trans H; with_reducible exact H2_) | with_reducible exact H | (rw [hy103]; exact H) | exact H
 have Ny103 := mz hy103
 clear hy103
 by_cases c2 : y103.length + l0_5.length < 3518437208883
 ·rw [if_pos c2] at H
  have LMc2 := mz c2
  clear c2
  obtain ⟨y106, hy106⟩ : ∃ y_ : List (S86), y_ = (y103 ++ l0_5) := ⟨_, rfl⟩
  replace H : ((some (([] : List (S86)) : List (S86))).bind fun y109 => (if y109.length + l0_6.length < 3518437208883 then (some (a0_0, a0_1, a0_2, a0_3, a0_4, y106, (y109 ++ l0_6), a0_7)) else (none))) = some (r1, r2, r3, r4, r5, r6, r7, r8) := by first | (rw [hy106]; with_reducible exact H) | (have H2_ := (Option.bind_some _ _).symm.trans H; rw [hy106]; with_reducible exact H2_) | (have H2_ := (Option.bind_some _ _).symm.trans H; with_reducible exact H2_) | with_reducible exact H | (rw [hy106]; exact H) | exact H
  have Ny106 := mz hy106
  clear hy106
  obtain ⟨y109, hy109⟩ : ∃ y_ : List (S86), y_ = (([] : List (S86))) := ⟨_, rfl⟩
  replace H : (if y109.length + l0_6.length < 3518437208883 then (some (a0_0, a0_1, a0_2, a0_3, a0_4, y106, (y109 ++ l0_6), a0_7)) else (none)) = some (r1, r2, r3, r4, r5, r6, r7, r8) := by first | (rw [hy109]; with_reducible exact H) | (have H2_ := (Option.bind_some _ _).symm.trans H; rw [hy109]; with_reducible exact H2_) | (have H2_ := (Option.bind_some _ _).symm.trans H; with_reducible exact H2_) | with_reducible exact H | (rw [hy109]; exact H) | exact H
  have Ny109 := mz hy109
  clear hy109
  by_cases c3 : y109.length + l0_6.length < 3518437208883
  ·rw [if_pos c3] at H
   have LMc3 := mz c3
   clear c3
   obtain ⟨y112, hy112⟩ : ∃ y_ : List (S86), y_ = (y109 ++ l0_6) := ⟨_, rfl⟩
   replace H : (some (a0_0, a0_1, a0_2, a0_3, a0_4, y106, y112, a0_7)) = some (r1, r2, r3, r4, r5, r6, r7, r8) := by first | (rw [hy112]; with_reducible exact H) | (have H2_ := (Option.bind_some _ _).symm.trans H; rw [hy112]; with_reducible exact H2_) | (have H2_ := (Option.bind_some _ _).symm.trans H; with_reducible exact H2_) | with_reducible exact H | (rw [hy112]; exact H) | exact H
   have Ny112 := mz hy112
   clear hy112
   simp only [Option.some.injEq, Prod.mk.injEq] at H
   obtain ⟨rfl, rfl, rfl, rfl, rfl, rfl, rfl, rfl⟩ := H
   go_enter Try.func61, Try.ntmps61
   go_wp2_with (first | ((with_reducible refine gate_dst (N := 1) rfl ?_); refine bz_ 1 #[.int .i64 a0_0, .string a0_1, .int .i64 a0_2, .int .i64 a0_3, .bool a0_4, .slice A0_5 l0_5.length c0_5, .slice A0_6 l0_6.length c0_6, .bool a0_7] 45 ?_; intro gb101 hg w4 hbox hb; have n0_ := mz (bs0_ hb); have n1_ := mz (hbox); have n2_ := mz ((by rw [hg]; exact bz1_ : w.heap.size ≤ gb101)); have n3_ := mz ((by rw [hg]; exact bz1_ : w.heap.size ≤ gb101)); clear HB; have HB := n0_; have BK101 := n1_; have GW101 := n2_; have GE101 := n3_; clear n0_ n1_ n2_ n3_; clear hb hbox hg) | ((with_reducible refine gate_dst (N := 2) rfl ?_); refine bz_ 2 #[.int .i64 0, .string (⟨#[]⟩ : ByteArray), .int .i64 0, .int .i64 0, .bool false, .slice none 0 0, .slice none 0 0, .bool false] 45 ?_; intro gb102 hg w5 hbox hb; have n0_ := mz (blk_below (g := gb101) (o := .cells #[.int .i64 a0_0, .string a0_1, .int .i64 a0_2, .int .i64 a0_3, .bool a0_4, .slice A0_5 l0_5.length c0_5, .slice A0_6 l0_6.length c0_6, .bool a0_7] 45 (0, 0)) a14_ hb); have n1_ := mz (bs2_ hb); have n2_ := mz (hbox); have n3_ := mz ((by rw [hg]; exact bz5_ : w.heap.size ≤ gb102)); have n4_ := mz ((by rw [hg]; exact bz5_ : w.heap.size ≤ gb102)); have n5_ := mz ((by rw [hg]; exact Nat.ne_of_lt (blk_lt (g := gb101) (o := .cells #[.int .i64 a0_0, .string a0_1, .int .i64 a0_2, .int .i64 a0_3, .bool a0_4, .slice A0_5 l0_5.length c0_5, .slice A0_6 l0_6.length c0_6, .bool a0_7] 45 (0, 0)) a14_) : gb101 ≠ gb102)); have n6_ := mz ((by rw [hg]; exact Nat.ne_of_gt (blk_lt (g := gb101) (o := .cells #[.int .i64 a0_0, .string a0_1, .int .i64 a0_2, .int .i64 a0_3, .bool a0_4, .slice A0_5 l0_5.length c0_5, .slice A0_6 l0_6.length c0_6, .bool a0_7] 45 (0, 0)) a14_) : gb102 ≠ gb101)); clear BK101; clear HB; have BK101 := n0_; have HB := n1_; have BK102 := n2_; have GW102 := n3_; have GE102 := n4_; have NB101_102 := n5_; have NB102_101 := n6_; clear n0_ n1_ n2_ n3_ n4_ n5_ n6_; clear hb hbox hg) | ((with_reducible refine gate_dst (N := 3) rfl ?_); refine Kd.R_lit k86 _ 86 ?hg (N := 3) ?hd (xs := ([] : List (S86))) (inner := []) (ok := fun _ => True) (okp := fun _ => True) ?hr ?hp (fun _ hk => hk) trivial (Below.refl _ _) (Nat.le_refl _) (by simp) ?_; (case hd => rfl); (case hg => rfl); (case hr => first | (go_simp; done) | (go_simp; rfl)); (case hp => exact (Reps.none _ _)); intro v104 w6 ho7 hb hg_ hnew_; clear hg_ hnew_; (first | rw [← Ny103.out] at ho7 | (simp only [Int.reduceToNat] at ho7; rw [← Ny103.out] at ho7)); have n0_ := mz (Kd.R_lower ho7 bz6_); have n1_ := mz (blk_below (g := gb101) (o := .cells #[.int .i64 a0_0, .string a0_1, .int .i64 a0_2, .int .i64 a0_3, .bool a0_4, .slice A0_5 l0_5.length c0_5, .slice A0_6 l0_6.length c0_6, .bool a0_7] 45 (0, 0)) a14_ hb); have n2_ := mz (blk_below (g := gb102) (o := .cells #[.int .i64 0, .string (⟨#[]⟩ : ByteArray), .int .i64 0, .int .i64 0, .bool false, .slice none 0 0, .slice none 0 0, .bool false] 45 (0, 0)) a15_ hb); have n3_ := mz (bs4_ hb); clear BK101; clear BK102; clear HB; have HO105 := n0_; have BK101 := n1_; have BK102 := n2_; have HB := n3_; clear n0_ n1_ n2_ n3_; clear hb ho7; have hnb8 := NB101_102.out; have hnc8 := NB102_101.out; have hcz9_0 := bk_ BK101.out 0 (.int .i64 a0_0); have hcz9_1 := bk_ BK101.out 1 (.string a0_1); have hcz9_2 := bk_ BK101.out 2 (.int .i64 a0_2); have hcz9_3 := bk_ BK101.out 3 (.int .i64 a0_3); have hcz9_4 := bk_ BK101.out 4 (.bool a0_4); have hcz9_5 := bk_ BK101.out 5 (.slice A0_5 l0_5.length c0_5); have hcz9_6 := bk_ BK101.out 6 (.slice A0_6 l0_6.length c0_6); have hcz9_7 := bk_ BK101.out 7 (.bool a0_7); have hfz9_0 := blk_frozen BK101.out 0; have hfz9_1 := blk_frozen BK101.out 1; have hfz9_2 := blk_frozen BK101.out 2; have hfz9_3 := blk_frozen BK101.out 3; have hfz9_4 := blk_frozen BK101.out 4; have hfz9_5 := blk_frozen BK101.out 5; have hfz9_6 := blk_frozen BK101.out 6; have hfz9_7 := blk_frozen BK101.out 7) | ((with_reducible refine gate_builtin (b := .append) (xs := #[.tmp 3, .tmp 5]) rfl ?_); at_builtin; refine Kd.R_append_rows k86 (w0 := w) w.heap.size rfl (.tmp 3) (.tmp 5) 34 86 (.agg #[(.int .i64 0), (.string ⟨#[]⟩), (.string ⟨#[]⟩)]) 40 rfl Try.underlying34 info86 rfl (by decide) (by omega) v104 y103 l0_5 _ _ _ (fun _ => True) (fun _ => False) rfl rfl ?aO ?aR (fun _ _ h => h) (fun _ h => h.elim) ?aF ?aB ?aS ?aL ?_; (case aR => repeat (first | exact (Kd.C_below HR0_5.out HB.out) | (with_reducible refine Kd.C_alloc ?_ _) | (with_reducible refine Kd.C_drewN ?_ _) | (with_reducible refine Kd.C_drew ?_))); (case aB => exact a6_); (case aF => exact (fun _ _ => trivial)); (case aO => exact a16_); (case aS => exact bz6_); (case aL => have := LMc2.out; omega); intro v107 w10 ho hb hg hat; rw [← Ny106.out] at ho; have n0_ := mz (blk_grown (g := gb101) (o := .cells #[.int .i64 a0_0, .string a0_1, .int .i64 a0_2, .int .i64 a0_3, .bool a0_4, .slice A0_5 l0_5.length c0_5, .slice A0_6 l0_6.length c0_6, .bool a0_7] 45 (0, 0)) a14_ hg (Kd.R_ne HO105.out BK101.out (by decide))); have n1_ := mz (blk_grown (g := gb102) (o := .cells #[.int .i64 0, .string (⟨#[]⟩ : ByteArray), .int .i64 0, .int .i64 0, .bool false, .slice none 0 0, .slice none 0 0, .bool false] 45 (0, 0)) a15_ hg (Kd.R_ne HO105.out BK102.out (by decide))); have n2_ := mz (hb); have n3_ := mz (ho); clear BK101; clear BK102; clear HB; clear HO105; have BK101 := n0_; have BK102 := n1_; have HB := n2_; have HO108 := n3_; clear n0_ n1_ n2_ n3_; clear ho hb hg hat; obtain ⟨Ao11, co11, eo11⟩ := Kd.R_slice HO108.out; subst eo11; have hcz12_0 := bk_ BK101.out 0 (.int .i64 a0_0); have hcz12_1 := bk_ BK101.out 1 (.string a0_1); have hcz12_2 := bk_ BK101.out 2 (.int .i64 a0_2); have hcz12_3 := bk_ BK101.out 3 (.int .i64 a0_3); have hcz12_4 := bk_ BK101.out 4 (.bool a0_4); have hcz12_5 := bk_ BK101.out 5 (.slice A0_5 l0_5.length c0_5); have hcz12_6 := bk_ BK101.out 6 (.slice A0_6 l0_6.length c0_6); have hcz12_7 := bk_ BK101.out 7 (.bool a0_7); have hfz12_0 := blk_frozen BK101.out 0; have hfz12_1 := blk_frozen BK101.out 1; have hfz12_2 := blk_frozen BK101.out 2; have hfz12_3 := blk_frozen BK101.out 3; have hfz12_4 := blk_frozen BK101.out 4; have hfz12_5 := blk_frozen BK101.out 5; have hfz12_6 := blk_frozen BK101.out 6; have hfz12_7 := blk_frozen BK101.out 7) | ((with_reducible refine gate_dst (N := 8) rfl ?_); refine Kd.R_lit k86 _ 86 ?hg (N := 8) ?hd (xs := ([] : List (S86))) (inner := []) (ok := fun _ => True) (okp := fun _ => True) ?hr ?hp (fun _ hk => hk) trivial (Below.refl _ _) (Nat.le_refl _) (by simp) ?_; (case hd => rfl); (case hg => rfl); (case hr => first | (go_simp; done) | (go_simp; rfl)); (case hp => exact (Reps.none _ _)); intro v110 w13 ho14 hb hg_ hnew_; clear hg_ hnew_; (first | rw [← Ny109.out] at ho14 | (simp only [Int.reduceToNat] at ho14; rw [← Ny109.out] at ho14)); have n0_ := mz (Kd.R_elder' a2_ (Kd.R_base ho14) hb); have n1_ := mz (Kd.R_lower (Kd.R_new' ho14 (Kd.R_lt a2_)) bz6_); have n2_ := mz (blk_below (g := gb101) (o := .cells #[.int .i64 a0_0, .string a0_1, .int .i64 a0_2, .int .i64 a0_3, .bool a0_4, .slice Ao11 y106.length co11, .slice A0_6 l0_6.length c0_6, .bool a0_7] 45 (0, 0)) (by (with_reducible repeat (first | refine blk_drewN ?_ _ | refine blk_drew ?_ | refine blk_alloc ?_ _)); refine blk_put (cs := #[.int .i64 a0_0, .string a0_1, .int .i64 a0_2, .int .i64 a0_3, .bool a0_4, .slice A0_5 l0_5.length c0_5, .slice A0_6 l0_6.length c0_6, .bool a0_7]) ?_ 5 _ rfl; (with_reducible repeat (first | refine blk_drewN ?_ _ | refine blk_drew ?_ | refine blk_alloc ?_ _)); exact BK101.out) hb); have n3_ := mz (blk_below (g := gb102) (o := .cells #[.int .i64 0, .string (⟨#[]⟩ : ByteArray), .int .i64 0, .int .i64 0, .bool false, .slice none 0 0, .slice none 0 0, .bool false] 45 (0, 0)) (by (with_reducible repeat (first | refine blk_drewN ?_ _ | refine blk_drew ?_ | refine blk_alloc ?_ _)); refine blk_far ?_ NB102_101.out _; (with_reducible repeat (first | refine blk_drewN ?_ _ | refine blk_drew ?_ | refine blk_alloc ?_ _)); exact BK102.out) hb); have n4_ := mz (bs4_ hb); clear HO108; clear BK101; clear BK102; clear HB; have HO108 := n0_; have HO111 := n1_; have BK101 := n2_; have BK102 := n3_; have HB := n4_; clear n0_ n1_ n2_ n3_ n4_; clear hb ho14; have hcz15_0 := bk_ BK101.out 0 (.int .i64 a0_0); have hcz15_1 := bk_ BK101.out 1 (.string a0_1); have hcz15_2 := bk_ BK101.out 2 (.int .i64 a0_2); have hcz15_3 := bk_ BK101.out 3 (.int .i64 a0_3); have hcz15_4 := bk_ BK101.out 4 (.bool a0_4); have hcz15_5 := bk_ BK101.out 5 (.slice Ao11 y106.length co11); have hcz15_6 := bk_ BK101.out 6 (.slice A0_6 l0_6.length c0_6); have hcz15_7 := bk_ BK101.out 7 (.bool a0_7); have hfz15_0 := blk_frozen BK101.out 0; have hfz15_1 := blk_frozen BK101.out 1; have hfz15_2 := blk_frozen BK101.out 2; have hfz15_3 := blk_frozen BK101.out 3; have hfz15_4 := blk_frozen BK101.out 4; have hfz15_5 := blk_frozen BK101.out 5; have hfz15_6 := blk_frozen BK101.out 6; have hfz15_7 := blk_frozen BK101.out 7) | ((with_reducible refine gate_builtin (b := .append) (xs := #[.tmp 8, .tmp 10]) rfl ?_); at_builtin; refine Kd.R_append_rows k86 (w0 := w) w.heap.size rfl (.tmp 8) (.tmp 10) 34 86 (.agg #[(.int .i64 0), (.string ⟨#[]⟩), (.string ⟨#[]⟩)]) 40 rfl Try.underlying34 info86 rfl (by decide) (by omega) v110 y109 l0_6 _ _ _ (fun k_ => some k_ ≠ (.slice Ao11 y106.length co11 : Value).ownBlock) (fun _ => False) rfl rfl ?aO ?aR (fun _ _ h => h) (fun _ h => h.elim) ?aF ?aB ?aS ?aL ?_; (case aR => repeat (first | exact (Kd.C_below HR0_6.out HB.out) | (with_reducible refine Kd.C_alloc ?_ _) | (with_reducible refine Kd.C_drewN ?_ _) | (with_reducible refine Kd.C_drew ?_))); (case aB => exact a6_); (case aF => exact (fun k_ hk => Kd.fresh' (Kd.R_lt a19_) k_ hk)); (case aO => exact (by (with_reducible repeat (first | apply Kd.R_alloc | apply Kd.R_drewN | apply Kd.R_drew)); exact Kd.R_mono HO111.out (fun _ hk => hk.2))); (case aS => exact bz6_); (case aL => have := LMc3.out; omega); intro v113 w16 ho hb hg hat; rw [← Ny112.out] at ho; have n0_ := mz (blk_grown (g := gb101) (o := .cells #[.int .i64 a0_0, .string a0_1, .int .i64 a0_2, .int .i64 a0_3, .bool a0_4, .slice Ao11 y106.length co11, .slice A0_6 l0_6.length c0_6, .bool a0_7] 45 (0, 0)) a14_ hg (Kd.R_ne HO111.out BK101.out (by decide))); have n1_ := mz (blk_grown (g := gb102) (o := .cells #[.int .i64 0, .string (⟨#[]⟩ : ByteArray), .int .i64 0, .int .i64 0, .bool false, .slice none 0 0, .slice none 0 0, .bool false] 45 (0, 0)) a15_ hg (Kd.R_ne HO111.out BK102.out (by decide))); have n2_ := mz (Kd.R_after (ok := (fun _ => True)) a19_ hg hat); have n3_ := mz (hb); have n4_ := mz (ho); clear BK101; clear BK102; clear HO108; clear HB; clear HO111; have BK101 := n0_; have BK102 := n1_; have HO108 := n2_; have HB := n3_; have HO114 := n4_; clear n0_ n1_ n2_ n3_ n4_; clear ho hb hg hat; obtain ⟨Ao17, co17, eo17⟩ := Kd.R_slice HO114.out; subst eo17; have hcz18_0 := bk_ BK101.out 0 (.int .i64 a0_0); have hcz18_1 := bk_ BK101.out 1 (.string a0_1); have hcz18_2 := bk_ BK101.out 2 (.int .i64 a0_2); have hcz18_3 := bk_ BK101.out 3 (.int .i64 a0_3); have hcz18_4 := bk_ BK101.out 4 (.bool a0_4); have hcz18_5 := bk_ BK101.out 5 (.slice Ao11 y106.length co11); have hcz18_6 := bk_ BK101.out 6 (.slice A0_6 l0_6.length c0_6); have hcz18_7 := bk_ BK101.out 7 (.bool a0_7); have hfz18_0 := blk_frozen BK101.out 0; have hfz18_1 := blk_frozen BK101.out 1; have hfz18_2 := blk_frozen BK101.out 2; have hfz18_3 := blk_frozen BK101.out 3; have hfz18_4 := blk_frozen BK101.out 4; have hfz18_5 := blk_frozen BK101.out 5; have hfz18_6 := blk_frozen BK101.out 6; have hfz18_7 := blk_frozen BK101.out 7; have hcz19_0 := bk_ BK102.out 0 (.int .i64 0); have hcz19_1 := bk_ BK102.out 1 (.string (⟨#[]⟩ : ByteArray)); have hcz19_2 := bk_ BK102.out 2 (.int .i64 0); have hcz19_3 := bk_ BK102.out 3 (.int .i64 0); have hcz19_4 := bk_ BK102.out 4 (.bool false); have hcz19_5 := bk_ BK102.out 5 (.slice none 0 0); have hcz19_6 := bk_ BK102.out 6 (.slice none 0 0); have hcz19_7 := bk_ BK102.out 7 (.bool false); have hfz19_0 := blk_frozen BK102.out 0; have hfz19_1 := blk_frozen BK102.out 1; have hfz19_2 := blk_frozen BK102.out 2; have hfz19_3 := blk_frozen BK102.out 3; have hfz19_4 := blk_frozen BK102.out 4; have hfz19_5 := blk_frozen BK102.out 5; have hfz19_6 := blk_frozen BK102.out 6; have hfz19_7 := blk_frozen BK102.out 7))
   refine bodyPost_ret (results_cell_row rfl _ _ gb102 45 #[.int .i64 a0_0, .string a0_1, .int .i64 a0_2, .int .i64 a0_3, .bool a0_4, .slice Ao11 y106.length co11, .slice Ao17 y112.length co17, .bool a0_7] (0, 0) _ rfl (by (with_reducible repeat (first | refine blk_drewN ?_ _ | refine blk_drew ?_ | refine blk_alloc ?_ _)); refine blk_put (cs := #[.int .i64 a0_0, .string a0_1, .int .i64 a0_2, .int .i64 a0_3, .bool a0_4, .slice Ao11 y106.length co11, .slice Ao17 y112.length co17, .bool false]) ?_ 7 _ rfl; (with_reducible repeat (first | refine blk_drewN ?_ _ | refine blk_drew ?_ | refine blk_alloc ?_ _)); refine blk_put (cs := #[.int .i64 a0_0, .string a0_1, .int .i64 a0_2, .int .i64 a0_3, .bool a0_4, .slice Ao11 y106.length co11, .slice none 0 0, .bool false]) ?_ 6 _ rfl; (with_reducible repeat (first | refine blk_drewN ?_ _ | refine blk_drew ?_ | refine blk_alloc ?_ _)); refine blk_put (cs := #[.int .i64 a0_0, .string a0_1, .int .i64 a0_2, .int .i64 a0_3, .bool a0_4, .slice none 0 0, .slice none 0 0, .bool false]) ?_ 5 _ rfl; (with_reducible repeat (first | refine blk_drewN ?_ _ | refine blk_drew ?_ | refine blk_alloc ?_ _)); refine blk_put (cs := #[.int .i64 a0_0, .string a0_1, .int .i64 a0_2, .int .i64 a0_3, .bool false, .slice none 0 0, .slice none 0 0, .bool false]) ?_ 4 _ rfl; (with_reducible repeat (first | refine blk_drewN ?_ _ | refine blk_drew ?_ | refine blk_alloc ?_ _)); refine blk_put (cs := #[.int .i64 a0_0, .string a0_1, .int .i64 a0_2, .int .i64 0, .bool false, .slice none 0 0, .slice none 0 0, .bool false]) ?_ 3 _ rfl; (with_reducible repeat (first | refine blk_drewN ?_ _ | refine blk_drew ?_ | refine blk_alloc ?_ _)); refine blk_put (cs := #[.int .i64 a0_0, .string a0_1, .int .i64 0, .int .i64 0, .bool false, .slice none 0 0, .slice none 0 0, .bool false]) ?_ 2 _ rfl; (with_reducible repeat (first | refine blk_drewN ?_ _ | refine blk_drew ?_ | refine blk_alloc ?_ _)); refine blk_put (cs := #[.int .i64 a0_0, .string (⟨#[]⟩ : ByteArray), .int .i64 0, .int .i64 0, .bool false, .slice none 0 0, .slice none 0 0, .bool false]) ?_ 1 _ rfl; (with_reducible repeat (first | refine blk_drewN ?_ _ | refine blk_drew ?_ | refine blk_alloc ?_ _)); refine blk_put (cs := #[.int .i64 0, .string (⟨#[]⟩ : ByteArray), .int .i64 0, .int .i64 0, .bool false, .slice none 0 0, .slice none 0 0, .bool false]) ?_ 0 _ rfl; (with_reducible repeat (first | refine blk_drewN ?_ _ | refine blk_drew ?_ | refine blk_alloc ?_ _)); refine blk_far ?_ NB102_101.out _; (with_reducible repeat (first | refine blk_drewN ?_ _ | refine blk_drew ?_ | refine blk_alloc ?_ _)); exact BK102.out) Try.underlying45 rfl (by kernel_rfl)) rfl ?_
   exact ⟨_, _, by first | rfl | (simp [errW_none, errW_some] <;> rfl) | (simp [*, errW_none, errW_some] <;> rfl), by (with_reducible repeat (first | apply Kd.R_alloc | apply Kd.R_drewN | apply Kd.R_drew)); exact Kd.R_mono (Kd.R_far (p := ⟨gb102, 7, none⟩) (Kd.R_far (p := ⟨gb102, 6, none⟩) (Kd.R_far (p := ⟨gb102, 5, none⟩) (Kd.R_far (p := ⟨gb102, 4, none⟩) (Kd.R_far (p := ⟨gb102, 3, none⟩) (Kd.R_far (p := ⟨gb102, 2, none⟩) (Kd.R_far (p := ⟨gb102, 1, none⟩) (Kd.R_far (p := ⟨gb102, 0, none⟩) (Kd.R_far (p := ⟨gb101, 6, none⟩) (Kd.R_types (Kd.R_types HO108.out BK101.out (by decide)) BK102.out (by decide)) (fun _ hk => hk.1.2) (.slice Ao17 y112.length co17)) (fun _ hk => hk.2) (.int .i64 a0_0)) (fun _ hk => hk.2) (.string a0_1)) (fun _ hk => hk.2) (.int .i64 a0_2)) (fun _ hk => hk.2) (.int .i64 a0_3)) (fun _ hk => hk.2) (.bool a0_4)) (fun _ hk => hk.2) (.slice Ao11 y106.length co11)) (fun _ hk => hk.2) (.slice Ao17 y112.length co17)) (fun _ hk => hk.2) (.bool a0_7)) (fun _ hk => hk.1.1.2), by (with_reducible repeat (first | apply Kd.R_alloc | apply Kd.R_drewN | apply Kd.R_drew)); exact Kd.R_mono (Kd.R_far (p := ⟨gb102, 7, none⟩) (Kd.R_far (p := ⟨gb102, 6, none⟩) (Kd.R_far (p := ⟨gb102, 5, none⟩) (Kd.R_far (p := ⟨gb102, 4, none⟩) (Kd.R_far (p := ⟨gb102, 3, none⟩) (Kd.R_far (p := ⟨gb102, 2, none⟩) (Kd.R_far (p := ⟨gb102, 1, none⟩) (Kd.R_far (p := ⟨gb102, 0, none⟩) (Kd.R_far (p := ⟨gb101, 6, none⟩) (Kd.R_types (Kd.R_types HO114.out BK101.out (by decide)) BK102.out (by decide)) (fun _ hk => hk.1.2) (.slice Ao17 y112.length co17)) (fun _ hk => hk.2) (.int .i64 a0_0)) (fun _ hk => hk.2) (.string a0_1)) (fun _ hk => hk.2) (.int .i64 a0_2)) (fun _ hk => hk.2) (.int .i64 a0_3)) (fun _ hk => hk.2) (.bool a0_4)) (fun _ hk => hk.2) (.slice Ao11 y106.length co11)) (fun _ hk => hk.2) (.slice Ao17 y112.length co17)) (fun _ hk => hk.2) (.bool a0_7)) (fun _ hk => hk.1.1), by repeat (first | (with_reducible first | exact HB.out | apply below_alloc | apply pw_below_drewN | apply below_drew1 | refine below_set ?_ GE101.out | refine below_set ?_ GE102.out) | exact HB.out)⟩
  ·rw [if_neg c3] at H
   exact absurd H (by simp)
 ·rw [if_neg c2] at H
  exact absurd H (by simp)
end
theorem put8 {w0 w3 : World} {g : Nat} {t : TypeId} {z0 z1 z2 z3 z4 z5 z6 z7 : Value} (v0 v1 v2 v3 v4 v5 v6 v7 : Value) (hb : Below w0.heap.size w0 w3) (hg : w0.heap.size ≤ g) (h : w3.heap[g]? = some (.cells #[z0, z1, z2, z3, z4, z5, z6, z7] t (0, 0))) :
  ((((((((w3.setCell ⟨g, 0, none⟩ v0).setCell ⟨g, 1, none⟩ v1).setCell ⟨g, 2, none⟩ v2).setCell ⟨g, 3, none⟩ v3).setCell ⟨g, 4, none⟩ v4).setCell ⟨g, 5, none⟩ v5).setCell ⟨g, 6, none⟩ v6).setCell ⟨g, 7, none⟩ v7).heap[g]? = some (.cells #[v0, v1, v2, v3, v4, v5, v6, v7] t (0, 0)) ∧
  Below w0.heap.size w0 ((((((((w3.setCell ⟨g, 0, none⟩ v0).setCell ⟨g, 1, none⟩ v1).setCell ⟨g, 2, none⟩ v2).setCell ⟨g, 3, none⟩ v3).setCell ⟨g, 4, none⟩ v4).setCell ⟨g, 5, none⟩ v5).setCell ⟨g, 6, none⟩ v6).setCell ⟨g, 7, none⟩ v7) ∧
  Kept w3 ((((((((w3.setCell ⟨g, 0, none⟩ v0).setCell ⟨g, 1, none⟩ v1).setCell ⟨g, 2, none⟩ v2).setCell ⟨g, 3, none⟩ v3).setCell ⟨g, 4, none⟩ v4).setCell ⟨g, 5, none⟩ v5).setCell ⟨g, 6, none⟩ v6).setCell ⟨g, 7, none⟩ v7) (fun k => k = g) :=
 ⟨(fill8 hb hg h).1, (fill8 hb hg h).2, (((((((((Kept.refl w3 (fun k => k = g)).setCell (p := ⟨g, 0, none⟩) (.inl rfl) v0).setCell (p := ⟨g, 1, none⟩) (.inl rfl) v1).setCell (p := ⟨g, 2, none⟩) (.inl rfl) v2).setCell (p := ⟨g, 3, none⟩) (.inl rfl) v3).setCell (p := ⟨g, 4, none⟩) (.inl rfl) v4).setCell (p := ⟨g, 5, none⟩) (.inl rfl) v5).setCell (p := ⟨g, 6, none⟩) (.inl rfl) v6).setCell (p := ⟨g, 7, none⟩) (.inl rfl) v7)⟩
theorem put1 {w0 w3 : World} {g : Nat} {t : TypeId} {cs : Array Value} (i : Nat) (u : Value) (cs' : Array Value) (e : cs.setIfInBounds i u = cs') (hb : Below w0.heap.size w0 w3) (hg : w0.heap.size ≤ g) (h : w3.heap[g]? = some (.cells cs t (0, 0))) :
  (w3.setCell ⟨g, i, none⟩ u).heap[g]? = some (.cells cs' t (0, 0)) ∧ Below w0.heap.size w0 (w3.setCell ⟨g, i, none⟩ u) ∧ Kept w3 (w3.setCell ⟨g, i, none⟩ u) (fun k => k = g) :=
 ⟨blk_put h i u e, hb.setCell hg u, (Kept.refl w3 (fun k => k = g)).setCell (p := ⟨g, i, none⟩) (.inl rfl) u⟩
theorem blk_one {W W' : World} {g k : Nat} {o : Obj} (h : W.heap[k]? = some o) (hk : Kept W W' (fun x => x = g)) (hg : k ≠ g) : W'.heap[k]? = some o := (hk.2 k (blk_lt h) hg).trans h
theorem blk_kp {W W' : World} {k : Nat} {o : Obj} {ok : Nat → Prop} (h : W.heap[k]? = some o) (hk : Kept W W' ok) (hg : ¬ ok k) : W'.heap[k]? = some o := (hk.2 k (blk_lt h) hg).trans h
theorem R_new {W W' : World} {v : Value} {l : List Part} {ok : Nat → Prop} {base : Nat} (h : Kd.R k86 86 W' W.heap.size ok v l) (hb : base ≤ W.heap.size) : Kd.R k86 86 W' base (fun k => W.heap.size ≤ k ∧ k < W'.heap.size) v l :=
 Kd.R_lower (Kd.R_mono (Kd.R_bound h) (fun k hk => ⟨hk.2.1, hk.2.2.1⟩)) hb
theorem R_one {W W' : World} {base lo hi g : Nat} {v : Value} {l : List Part} (h : Kd.R k86 86 W base (fun k => lo ≤ k ∧ k < hi) v l) (hk : Kept W W' (fun x => x = g)) (hg : g < lo) : Kd.R k86 86 W' base (fun k => lo ≤ k ∧ k < hi) v l :=
 Kd.R_step h (fun k h1 hlt => hk.2 k hlt (by have := h1.1; omega))
theorem R_two {W : World} {base a b c d : Nat} {v u : Value} {l m : List Part} (h : Kd.R k86 86 W base (fun k => a ≤ k ∧ k < b) v l) (h' : Kd.R k86 86 W base (fun k => c ≤ k ∧ k < d) u m) (hd : b ≤ c ∨ d ≤ a) :
  Kd.R k86 86 W base (fun k_ => some k_ ≠ u.ownBlock) v l ∧ Kd.R k86 86 W base (fun k_ => some k_ ≠ v.ownBlock) u m := by
 refine ⟨Kd.R_mono h (fun k hk e => ?_), Kd.R_mono h' (fun k hk e => ?_)⟩
 ·have := h'.1 k e.symm; omega
 ·have := h.1 k e.symm; omega
theorem R_self {W : World} {base : Nat} {v : Value} {l : List Part} {ok : Nat → Prop} (h : Kd.R k86 86 W base ok v l) : Kd.R k86 86 W base (fun k => v.ownBlock = some k) v l := by
 obtain ⟨_, xs, h1, h2, h3⟩ := h
 exact ⟨fun k hk => hk, xs, h1, h2, fun j p hj => by
  have hc := h3 j p hj
  have := k86_open (k86.K_of_M hc)
  rw [this]
  exact k86_mkM _ _ _ p⟩
theorem R_twoD {W : World} {base : Nat} {v u : Value} {l m : List Part} {p p' : Nat → Prop} (h : Kd.R k86 86 W base p v l) (h' : Kd.R k86 86 W base p' u m) (hd : ∀ k, v.ownBlock = some k → ¬ u.ownBlock = some k) :
  Kd.R k86 86 W base (fun k_ => some k_ ≠ u.ownBlock) v l ∧ Kd.R k86 86 W base (fun k_ => some k_ ≠ v.ownBlock) u m :=
 ⟨Kd.R_mono (R_self h) (fun k hk e => hd k hk e.symm), Kd.R_mono (R_self h') (fun k hk e => hd k e.symm hk)⟩
theorem ownClient_val {c : Client} (h : clientB c = true) : spec_l16OwnClient.f c.f0 c.f1 c.f2 c.f3 c.f4 c.f5 c.f6 c.f7 = some (c.f0, c.f1, c.f2, c.f3, c.f4, c.f5, c.f6, c.f7) := by
 have hc := clientB_of h
 have h5 := (opB_of hc.2.2.2.2.2.2.2.1).1
 have h6 := (opB_of hc.2.2.2.2.2.2.2.2).1
 unfold spec_l16OwnClient.f
 simp only [Option.bind_some, List.length_nil, List.nil_append, if_pos (show 0 + c.f5.length < 3518437208883 by omega), if_pos (show 0 + c.f6.length < 3518437208883 by omega)]
structure TwoMk (v v' : Value) (g g' : Nat) : Prop where
 ne : g ≠ g'
 row : ∀ k, v.ownBlock = some k → v'.ownBlock ≠ some k
theorem TwoMk.swap {v v' : Value} {g g' : Nat} (h : TwoMk v v' g g') : TwoMk v' v g' g := ⟨Ne.symm h.ne, fun k e e' => h.row k e' e⟩
theorem IsMk.by_mk {base g g' : Nat} {v u u' : Value} {m m' : Mk} {w w' : World} (h : IsMk base w g v m) (h' : IsMk base w g' u m') (hT : TwoMk v u g g') (hs : MStep base g' u u' w w') : IsMk base w' g v m := by
 refine ⟨(hs.kept.2 g (blk_lt h.blk) ?_).trans h.blk, h.ge, own_move h.row (fun k hk => hs.kept.2 k (own_lt h.row k hk) ?_)⟩
 ·rintro (e | e)
  ·exact hT.ne e
  ·exact own_ne h'.row h.blk (by decide) e
 ·rintro (e | e)
  ·exact own_ne h.row h'.blk (by decide) (by rw [← e]; exact hk.symm)
  ·exact hT.row k hk e.symm
theorem TwoMk.step {base g g' : Nat} {v u u' : Value} {m : Mk} {w w' : World} (h : TwoMk v u g g') (hm : IsMk base w g v m) (hs : MStep base g' u u' w w') : TwoMk v u' g g' := by
 refine ⟨h.ne, fun k hk e => ?_⟩
 rcases hs.own with e2 | ⟨b, e2, hle⟩
 ·exact h.row k hk (e2.symm.trans e)
 ·rw [e2] at e; injection e with e
  have := own_lt hm.row k hk; omega

structure St4 (t : TypeId) (base : Nat) (w : World) (g1 g2 g3 g4 : Nat) (A1 : Option Addr) (c1 : Nat) (xs : List Part) (A2 : Option Addr) (c2 : Nat) (ys : List Part) (v : Value) (m : Mk) (u : Value) (o : Mk) : Prop where
 a : St3 t base w g1 g2 g3 A1 c1 xs A2 c2 ys v m
 b : St3 t base w g1 g2 g4 A1 c1 xs A2 c2 ys u o
 two : TwoMk v u g3 g4
section
variable {t : TypeId} {base g1 g2 g3 g4 c1 c2 : Nat} {w w' : World} {A1 A2 : Option Addr} {xs ys l' : List Part} {v u : Value} {m m' o : Mk} (ht : t ≠ 132) (htp : t ≠ 86)
theorem St4.below (h : St4 t base w g1 g2 g3 g4 A1 c1 xs A2 c2 ys v m u o) (hb : Below w.heap.size w w') : St4 t base w' g1 g2 g3 g4 A1 c1 xs A2 c2 ys v m u o := ⟨h.a.below hb, h.b.below hb, h.two⟩
theorem St4.kept (h : St4 t base w g1 g2 g3 g4 A1 c1 xs A2 c2 ys v m u o) {ok : Nat → Prop} (hk : Kept w w' ok) (hg : ¬ ok g1 ∧ ¬ ok g2 ∧ ¬ ok g3 ∧ ¬ ok g4) (h1 : 0 < xs.length → ∀ a, A1 = some a → ¬ ok a.block) (h2 : 0 < ys.length → ∀ a, A2 = some a → ¬ ok a.block) (hv : ∀ k, v.ownBlock = some k → ¬ ok k) (hu : ∀ k, u.ownBlock = some k → ¬ ok k) : St4 t base w' g1 g2 g3 g4 A1 c1 xs A2 c2 ys v m u o :=
 ⟨h.a.kept hk ⟨hg.1, hg.2.1, hg.2.2.1⟩ h1 h2 hv, h.b.kept hk ⟨hg.1, hg.2.1, hg.2.2.2⟩ h1 h2 hu, h.two⟩
include ht htp in
theorem St4.rd1 (h : St4 t base w g1 g2 g3 g4 A1 c1 xs A2 c2 ys v m u o) (h0 : 0 < xs.length) (hP : RdPost t base g1 A1 l' w w') : Below base w w' ∧ Kept w w' (fun k => k = g1) ∧ ∃ A' c', (∀ a', A' = some a' → (∃ a, A1 = some a ∧ a'.block = a.block) ∨ w.heap.size ≤ a'.block) ∧ St4 t base w' g1 g2 g3 g4 A' c' l' A2 c2 ys v m u o := by
 obtain ⟨A', c', hr, hs⟩ := hP
 exact ⟨hs.below, hs.kept, A', c', hs.own, ⟨hr, h.a.r2.by_rd h.a.r1 (Ne.symm h.a.ne) hs.kept, h.a.mkr.by_rd ht h.a.r1 htp hs.kept, h.a.s1.byRd h0 h.a.mkr hs, h.a.s2, h.a.ne, h.a.le⟩,
  ⟨hr, h.b.r2.by_rd h.b.r1 (Ne.symm h.b.ne) hs.kept, h.b.mkr.by_rd ht h.b.r1 htp hs.kept, h.b.s1.byRd h0 h.b.mkr hs, h.b.s2, h.b.ne, h.b.le⟩, h.two⟩
include ht htp in
theorem St4.rd2 (h : St4 t base w g1 g2 g3 g4 A1 c1 xs A2 c2 ys v m u o) (h0 : 0 < ys.length) (hP : RdPost t base g2 A2 l' w w') : Below base w w' ∧ Kept w w' (fun k => k = g2) ∧ ∃ A' c', (∀ a', A' = some a' → (∃ a, A2 = some a ∧ a'.block = a.block) ∨ w.heap.size ≤ a'.block) ∧ St4 t base w' g1 g2 g3 g4 A1 c1 xs A' c' l' v m u o := by
 obtain ⟨A', c', hr, hs⟩ := hP
 exact ⟨hs.below, hs.kept, A', c', hs.own, ⟨h.a.r1.by_rd h.a.r2 h.a.ne hs.kept, hr, h.a.mkr.by_rd ht h.a.r2 htp hs.kept, h.a.s1, h.a.s2.byRd h0 h.a.mkr hs, h.a.ne, h.a.le⟩,
  ⟨h.b.r1.by_rd h.b.r2 h.b.ne hs.kept, hr, h.b.mkr.by_rd ht h.b.r2 htp hs.kept, h.b.s1, h.b.s2.byRd h0 h.b.mkr hs, h.b.ne, h.b.le⟩, h.two⟩
include ht htp in
theorem St4.take1 (h : St4 t base w g1 g2 g3 g4 A1 c1 xs A2 c2 ys v m u o) (hP : MkPost base g3 v w m' w') : Below base w w' ∧ Kept w w' (fun k => k = g3 ∨ some k = v.ownBlock) ∧ ∃ v', St4 t base w' g1 g2 g3 g4 A1 c1 xs A2 c2 ys v' m' u o := by
 obtain ⟨v', hm, hs⟩ := hP
 have hr1 := h.a.r1.by_mk ht h.a.mkr hs h.a.s1 htp
 have hr2 := h.a.r2.by_mk ht h.a.mkr hs h.a.s2 htp
 exact ⟨hs.below, hs.kept, v', ⟨hr1, hr2, hm, h.a.s1.byMk h.a.r1 hs, h.a.s2.byMk h.a.r2 hs, h.a.ne, h.a.le⟩, ⟨hr1, hr2, h.b.mkr.by_mk h.a.mkr h.two.swap hs, h.b.s1, h.b.s2, h.b.ne, h.b.le⟩, (h.two.swap.step h.b.mkr hs).swap⟩
include ht htp in
theorem St4.take2 (h : St4 t base w g1 g2 g3 g4 A1 c1 xs A2 c2 ys v m u o) (hP : MkPost base g4 u w m' w') : Below base w w' ∧ Kept w w' (fun k => k = g4 ∨ some k = u.ownBlock) ∧ ∃ u', St4 t base w' g1 g2 g3 g4 A1 c1 xs A2 c2 ys v m u' m' := by
 obtain ⟨u', hm, hs⟩ := hP
 have hr1 := h.b.r1.by_mk ht h.b.mkr hs h.b.s1 htp
 have hr2 := h.b.r2.by_mk ht h.b.mkr hs h.b.s2 htp
 exact ⟨hs.below, hs.kept, u', ⟨hr1, hr2, h.a.mkr.by_mk h.b.mkr h.two hs, h.a.s1, h.a.s2, h.a.ne, h.a.le⟩, ⟨hr1, hr2, hm, h.b.s1.byMk h.b.r1 hs, h.b.s2.byMk h.b.r2 hs, h.b.ne, h.b.le⟩, h.two.step h.a.mkr hs⟩
end
theorem R_own {w' : World} {base : Nat} {v : Value} {l : List Part} (h : w'.ownsRow base 86 3 v l.length (l.flatMap cellsP)) : Kd.R k86 86 w' base (fun k => v.ownBlock = some k) v l :=
 ⟨fun _ h => h, _, h, by rw [flat_length cellsP 3 cellsP_len]; rfl, fun j p hj => by
  have hsz : k86.sz = 3 := rfl
  rw [hsz, flat_chunk cellsP 3 cellsP_len l j p hj]
  exact k86_mkM _ _ _ p⟩
theorem blk_mk {base g gb : Nat} {v : Value} {m : Mk} {w0 w w' : World} {o : Obj} (hb : w.heap[gb]? = some o) (hk : Kept w w' (fun k => k = g ∨ some k = v.ownBlock)) (hm : IsMk base w0 g v m) (hge : w0.heap.size ≤ gb) : w'.heap[gb]? = some o :=
 (hk.2 gb (blk_lt hb) (by
  rintro (e | e)
  ·have := blk_lt hm.blk; omega
  ·have := own_lt hm.row gb e.symm; omega)).trans hb
def trU : List U → List U → Mk → Mk → Mk × Mk
 | .p c :: xs, ys, m, o => trU xs ys (stepU m (.p c)) (stepU o .k)
 | [], .p c :: ys, m, o => trU [] ys (stepU m .k) (stepU o (.p c))
 | [], _, m, o => (m, o)
 | .k :: xs, .p c :: ys, m, o => trU (.k :: xs) ys (stepU m .k) (stepU o (.p c))
 | .k :: xs, .k :: ys, m, o => trU xs ys (stepU m .k) (stepU o .k)
 | .k :: xs, .d c :: ys, m, o => trU xs ys m (stepU o (.d c))
 | .k :: _, [], m, o => (m, o)
 | .d e :: xs, .p c :: ys, m, o => trU (.d e :: xs) ys (stepU m .k) (stepU o (.p c))
 | .d e :: xs, .k :: ys, m, o => trU xs ys (stepU m (.d e)) o
 | .d _ :: xs, .d _ :: ys, m, o => trU xs ys m o
 | .d _ :: _, [], m, o => (m, o)
termination_by xs ys => xs.length + ys.length
theorem trU_p (c : UInt8) (xs ys : List U) (m o : Mk) : trU (.p c :: xs) ys m o = trU xs ys (stepU m (.p c)) (stepU o .k) := by rw [trU]
def noPut (l : List U) : Prop := ∀ c r, l ≠ U.p c :: r
theorem trU_q (c : UInt8) (xs ys : List U) (h : noPut xs) (m o : Mk) : trU xs (.p c :: ys) m o = trU xs ys (stepU m .k) (stepU o (.p c)) := by
 cases xs with
 | nil => rw [trU]
 | cons u xs =>
  cases u with
  | p e => exact absurd rfl (h e xs)
  | k => rw [trU]
  | d e => rw [trU]
theorem trU_puts (l : List UInt8) (xs ys : List U) (m o : Mk) : trU (l.map U.p ++ xs) ys m o = trU xs ys ((l.map U.p).foldl stepU m) ((List.replicate l.length U.k).foldl stepU o) := by
 induction l generalizing m o with
 | nil => rfl
 | cons c l ih => rw [List.map_cons, List.cons_append, trU_p, ih]; rfl
theorem trU_putsR (l : List UInt8) (xs ys : List U) (h : noPut xs) (m o : Mk) : trU xs (l.map U.p ++ ys) m o = trU xs ys ((List.replicate l.length U.k).foldl stepU m) ((l.map U.p).foldl stepU o) := by
 induction l generalizing m o with
 | nil => rfl
 | cons c l ih => rw [List.map_cons, List.cons_append, trU_q c xs _ h, ih]; rfl
theorem trU_keeps (n : Nat) (xs ys : List U) (m o : Mk) : trU (List.replicate n U.k ++ xs) (List.replicate n U.k ++ ys) m o = trU xs ys ((List.replicate n U.k).foldl stepU m) ((List.replicate n U.k).foldl stepU o) := by
 induction n generalizing m o with
 | zero => rfl
 | succ n ih => rw [List.replicate_succ, List.cons_append, List.cons_append, trU, ih]; rfl
theorem trU_keepdrop (l : List UInt8) (xs ys : List U) (m o : Mk) : trU (List.replicate l.length U.k ++ xs) (l.map U.d ++ ys) m o = trU xs ys m ((l.map U.d).foldl stepU o) := by
 induction l generalizing m o with
 | nil => rfl
 | cons c l ih => rw [List.length_cons, List.replicate_succ, List.map_cons, List.cons_append, List.cons_append, trU, ih]; rfl
theorem trU_dropkeep (l : List UInt8) (xs ys : List U) (m o : Mk) : trU (l.map U.d ++ xs) (List.replicate l.length U.k ++ ys) m o = trU xs ys ((l.map U.d).foldl stepU m) o := by
 induction l generalizing m o with
 | nil => rfl
 | cons c l ih => rw [List.length_cons, List.replicate_succ, List.map_cons, List.cons_append, List.cons_append, trU, ih]; rfl
theorem trU_dropdrop (l l' : List UInt8) (h : l.length = l'.length) (xs ys : List U) (m o : Mk) : trU (l.map U.d ++ xs) (l'.map U.d ++ ys) m o = trU xs ys m o := by
 induction l generalizing l' with
 | nil => cases l' with
  | nil => rfl
  | cons c l' => simp at h
 | cons c l ih =>
  cases l' with
  | nil => simp at h
  | cons e l' => rw [List.map_cons, List.map_cons, List.cons_append, List.cons_append, trU, ih l' (by simpa using h)]
theorem tr_putL {p : Part} (hp : pureP p) (h : p.f1.size ≠ 0) (xs : List Part) (ys : List U) (m o : Mk) : trU (unitsL (p :: xs)) ys m o = trU (unitsL xs) ys (takeM m p) (keepM p.f1.size o) := by
 have e := steps_keep o p.f1.size
 rw [unitsL_cons, ← takeM_units m p hp.1, ← e, pure_put hp h, units_put, trU_puts]
 simp
theorem noPut_units {xs : List Part} (h : ∀ p l, xs = p :: l → fullP p ∧ p.f1.size = 0) : noPut (unitsL xs) := by
 intro c r e
 cases xs with
 | nil => simp [unitsL] at e
 | cons p l =>
  obtain ⟨⟨hp, hs⟩, h1⟩ := h p l rfl
  rw [unitsL_cons] at e
  unfold sizeP at hs
  by_cases a : 0 < p.f0
  ·obtain ⟨k, hk⟩ : ∃ k, p.f0.toNat = k + 1 := ⟨p.f0.toNat - 1, by omega⟩
   rw [pure_keep hp a, units_kept, hk, List.replicate_succ, List.cons_append] at e
   cases e
  ·have a2 : p.f2.size ≠ 0 := by have := hp.1; omega
   obtain ⟨x, s, hx⟩ : ∃ x s, p.f2.data.toList = x :: s := List.exists_cons_of_ne_nil (by intro z; exact a2 (by rw [← ByteArray.size_data, ← Array.length_toList, z]; rfl))
   rw [pure_drop hp a2, units_drop, hx, List.map_cons, List.cons_append] at e
   cases e
theorem tr_putR {q : Part} (hq : pureP q) (h : q.f1.size ≠ 0) (xs ys : List Part) (hx : ∀ p l, xs = p :: l → fullP p ∧ p.f1.size = 0) (m o : Mk) : trU (unitsL xs) (unitsL (q :: ys)) m o = trU (unitsL xs) (unitsL ys) (keepM q.f1.size m) (takeM o q) := by
 have e := steps_keep m q.f1.size
 rw [unitsL_cons, ← takeM_units o q hq.1, ← e, pure_put hq h, units_put, trU_putsR _ _ _ (noPut_units hx)]
 simp
theorem tr_both {p q : Part} (hp : fullP p) (hq : fullP q) (h1 : p.f1.size = 0) (h2 : q.f1.size = 0) (xs ys : List Part) (m o : Mk) (n : Nat) (hn : n ≤ sizeP p) (hn' : n ≤ sizeP q) :
  trU (unitsL (p :: xs)) (unitsL (q :: ys)) m o = trU (unitsL (cutL p xs n)) (unitsL (cutL q ys n)) (if 0 < q.f0 then takeM m (firstP p n) else m) (if 0 < p.f0 then takeM o (firstP q n) else o) := by
 obtain ⟨hp, hp'⟩ := hp
 obtain ⟨hq, hq'⟩ := hq
 rw [units_cutL p xs n hp hn, units_cutL q ys n hq hn']
 generalize unitsL (cutL p xs n) = X
 generalize unitsL (cutL q ys n) = Y
 rw [← takeM_units m (firstP p n) (pure_first n hp).1, ← takeM_units o (firstP q n) (pure_first n hq).1]
 by_cases a : 0 < p.f0
 ·rw [if_pos a, first_keep a hp, units_kept]
  by_cases b : 0 < q.f0
  ·rw [if_pos b, first_keep b hq, units_kept]; exact trU_keeps _ _ _ _ _
  ·have b2 : q.f2.size ≠ 0 := by simp only [sizeP] at hq'; have := hq.1; omega
   have hl : n = (q.f2.extract 0 n).data.toList.length := by
    have : q.f0.toNat = 0 := by have := hq.1; omega
    simp only [sizeP, this, h2] at hn'; simp; omega
   rw [if_neg b, first_drop hq b2, units_drop]
   have := trU_keepdrop (q.f2.extract 0 n).data.toList X Y m o
   rw [← hl] at this
   exact this
 ·have a2 : p.f2.size ≠ 0 := by simp only [sizeP] at hp'; have := hp.1; omega
  have hl : n = (p.f2.extract 0 n).data.toList.length := by
   have : p.f0.toNat = 0 := by have := hp.1; omega
   simp only [sizeP, this, h1] at hn; simp; omega
  rw [if_neg a, first_drop hp a2, units_drop]
  by_cases b : 0 < q.f0
  ·rw [if_pos b, first_keep b hq, units_kept]
   have := trU_dropkeep (p.f2.extract 0 n).data.toList X Y m o
   rw [← hl] at this
   exact this
  ·have b2 : q.f2.size ≠ 0 := by simp only [sizeP] at hq'; have := hq.1; omega
   have hl2 : n = (q.f2.extract 0 n).data.toList.length := by
    have : q.f0.toNat = 0 := by have := hq.1; omega
    simp only [sizeP, this, h2] at hn'; simp; omega
   rw [if_neg b, first_drop hq b2, units_drop]
   exact trU_dropdrop _ _ (by rw [← hl, ← hl2]) X Y m o
theorem tr_done (m o : Mk) : trU (unitsL []) (unitsL []) m o = (m, o) := by
 rw [show unitsL [] = [] from rfl, trU]
 intro c ys h; cases h
end Go.Proofs.Ytgccoekganghhaa.X
