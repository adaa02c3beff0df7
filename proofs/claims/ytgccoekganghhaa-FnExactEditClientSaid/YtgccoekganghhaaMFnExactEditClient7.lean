/- The law FnExactEditClient of the program: its proof, part 7. -/
import Derived.Test.YtgccoekganghhaaMFnExactEditClient6
import Derived.Test.YtgccoekganghhaaMFnExactEditClient5
import Derived.Test.YtgccoekganghhaaMFnExactEditClient2
import Derived.ProofKit
import Derived.OpenShut
import Derived.ChangeSlices
import Derived.Test.YtgccoekganghhaaRows
import Derived.WalkKit
import Derived.ShutString
import Derived.ChangeOld
import Derived.Below
import Derived.SizedLaws
set_option linter.unusedVariables false
set_option linter.unusedSimpArgs false
namespace Go.Proofs.Ytgccoekganghhaa.X
open Go.RowKit Go.Proofs.YtgccoekganghhaaW.PrintWords Go.Proofs.YtgccoekganghhaaW.PrintLast Go.Proofs.YtgccoekganghhaaW.PrintMore
theorem blk_keptE {W W' : World} {g : Nat} {o : Obj} {ok : Nat → Prop} (h : W.heap[g]? = some o) (hk : Kept W W' ok) (hg : ¬ ok g) : W'.heap[g]? = some o := (hk.2 g (blk_lt h) hg).trans h
theorem R_keptE {W W' : World} {base lo hi : Nat} {v : Value} {l : List Part} {ok : Nat → Prop} (h : Kd.R k86 86 W base (fun k => lo ≤ k ∧ k < hi) v l) (hk : Kept W W' ok) (hd : ∀ k, lo ≤ k → k < hi → ¬ ok k) : Kd.R k86 86 W' base (fun k => lo ≤ k ∧ k < hi) v l :=
  Kd.R_step h (fun k h1 hlt => hk.2 k hlt (hd k h1.1 h1.2))
theorem kept_sub {w w' : World} {S S' : Nat → Prop} (h : Kept w w' S) (hs : ∀ k, S k → S' k) : Kept w w' S' := ⟨h.1, fun k hk hn => h.2 k hk (fun e => hn (hs k e))⟩
theorem R_self {W : World} {base : Nat} {v : Value} {l : List Part} {ok : Nat → Prop} (h : Kd.R k86 86 W base ok v l) : Kd.R k86 86 W base (fun k => v.ownBlock = some k) v l := by
  obtain ⟨_, xs, h1, h2, h3⟩ := h
  exact ⟨fun k hk => hk, xs, h1, h2, fun j p hj => by
    have hc := h3 j p hj
    have := k86_open (k86.K_of_M hc)
    rw [this]
    exact k86_mkM _ _ _ p⟩

set_option maxHeartbeats 16000000 in
set_option maxRecDepth 100000 in
theorem ec_walk (i : Int) (t : ByteArray) (v q : Int) (b : Bool) (A5 : Option Addr) (c5 : Nat) (s5 : List LPart) (A6 : Option Addr) (c6 : Nat) (s6 : List LPart) (d : Bool) (A1 : Option Addr) (c1 : Nat) (op : List LPart) (w : World) (g5 : Kd.C k78 w A5 s5.length s5) (e5 : s5.length ≤ c5) (g6 : Kd.C k78 w A6 s6.length s6) (e6 : s6.length ≤ c6) (g1 : Kd.C k78 w A1 op.length op) (e1 : op.length ≤ c1) (hB : BigC ⟨i, t, v, q, b, s5, s6, d⟩) (hO : op.length ≤ maxLen) (hO2 : ∀ p ∈ op, p.f1.size ≤ maxLen ∧ p.f2.size ≤ maxLen) :
    Calls Try.prog 4 #[.agg #[.int .i64 i, .string t, .int .i64 v, .int .i64 q, .bool b, .slice A5 s5.length c5, .slice A6 s6.length c6, .bool d], .slice A1 op.length c1] w fun e w' => e = .returned (.bool true) ∧ Below w.heap.size w w' := by
  obtain ⟨r, hsz, hr, hg⟩ := szClient_ev ⟨i, t, v, q, b, s5, s6, d⟩ hB 1048576 (by omega) (by omega)
  obtain ⟨K1, hK1⟩ := Ev.rounds hsz
  simp only at hK1 hg
  have U5 := mz g5
  have E5 := mz e5
  have U6 := mz g6
  have E6 := mz e6
  have U1 := mz g1
  have E1 := mz e1
  have HK1 := mz hK1
  clear g5 e5 g6 e6 g1 e1 hsz hK1 hB
  by_cases hneg : r < 0
  · clear hg hO hO2
    go_enter Try.func4, Try.ntmps4
    go_upto_region 2 with ((with_reducible refine gate_dst (N := 2) rfl ?_); refine bx 2 #[.int .i64 i, .string t, .int .i64 v, .int .i64 q, .bool b, .slice A5 s5.length c5, .slice A6 s6.length c6, .bool d] 42 ?_; intro gC hg w1 hbox hb; have HGC := mz hg; have HB1 := mz hb; have KC := mz hbox; have Z1 := mz hb.size; have HLC : Aside0 (gC < w1.heap.size) := ⟨blk_lt hbox⟩; clear hg hb hbox)
    (try simp only [Act.put, List.setIfInBounds_toArray, List.set_cons_zero, List.set_cons_succ])
    obtain ⟨C0, C1, C2, C3, C4, C5, C6, C7⟩ := cells8 KC.out
    go_wp2_with fail
    clear C0 C1 C2 C3 C4 C5 C6 C7
    refine (laws_szClient.calls K1 i t v q b A5 c5 s5 A6 c6 s6 d 1048576 r _ (Kd.C_below U5.out HB1.out) E5.out (Kd.C_below U6.out HB1.out) E6.out HK1.out).mono ?_
    rintro e w2 ⟨rfl, hb⟩
    have HB2 := mz (below_step HB1.out hb)
    have Z2 := mz (hb).size
    have KC_2 := mz (blk_below KC.out hb)
    clear hb
    go_wp2_with fail
    go_ret
    exact ⟨rfl, HB2.out⟩
  · obtain ⟨f1, f5, f5', f6, f6'⟩ := hg (by omega)
    obtain ⟨r2, hr2, hr2', hg2⟩ := szPartS_ev op hO hO2 r (by omega) (by omega)
    obtain ⟨K2, hK2⟩ := Ev.rounds hr2
    have HK2 := mz hK2
    clear hr2 hK2 hg
    by_cases hneg2 : r2 < 0
    · clear hg2 hO hO2 f1 f5 f5' f6 f6'
      go_enter Try.func4, Try.ntmps4
      go_upto_region 2 with ((with_reducible refine gate_dst (N := 2) rfl ?_); refine bx 2 #[.int .i64 i, .string t, .int .i64 v, .int .i64 q, .bool b, .slice A5 s5.length c5, .slice A6 s6.length c6, .bool d] 42 ?_; intro gC hg w1 hbox hb; have HGC := mz hg; have HB1 := mz hb; have KC := mz hbox; have Z1 := mz hb.size; have HLC : Aside0 (gC < w1.heap.size) := ⟨blk_lt hbox⟩; clear hg hb hbox)
      (try simp only [Act.put, List.setIfInBounds_toArray, List.set_cons_zero, List.set_cons_succ])
      obtain ⟨C0, C1, C2, C3, C4, C5, C6, C7⟩ := cells8 KC.out
      go_wp2_with fail
      clear C0 C1 C2 C3 C4 C5 C6 C7
      refine (laws_szClient.calls K1 i t v q b A5 c5 s5 A6 c6 s6 d 1048576 r _ (Kd.C_below U5.out HB1.out) E5.out (Kd.C_below U6.out HB1.out) E6.out HK1.out).mono ?_
      rintro e w2 ⟨rfl, hb⟩
      have HB2 := mz (below_step HB1.out hb)
      have Z2 := mz (hb).size
      have KC_2 := mz (blk_below KC.out hb)
      clear hb
      go_wp2_with fail
      refine (laws_szPartS.calls K2 A1 c1 op r r2 _ (Kd.C_below U1.out HB2.out) E1.out HK2.out).mono ?_
      rintro e w3 ⟨rfl, hb⟩
      have HB3 := mz (below_step HB2.out hb)
      have Z3 := mz (hb).size
      have KC_3 := mz (blk_below KC_2.out hb)
      clear hb
      go_wp2_with fail
      go_ret
      exact ⟨rfl, HB3.out⟩
    · obtain ⟨o1, o2⟩ := hg2 (by omega)
      obtain ⟨K3, hK3⟩ := Ev.rounds (toClient_ev ⟨i, t, v, q, b, s5, s6, d⟩ f5 f6)
      simp only at hK3
      obtain ⟨K4, hK4⟩ := Ev.rounds (toPartS_ev op o1)
      have z5 := opOf_sized s5 f5'
      have z6 := opOf_sized s6 f6'
      have zo := opOf_sized op o2
      have zt : t.size ≤ maxLen := by simp only [maxLen]; exact Nat.le_trans f1 (by omega)
      have hl := editV_len ⟨i, t, v, q, b, opOf s5, opOf s6, d⟩ (opOf op)
      obtain ⟨⟨j1, j2, j3, j4, j5, j6, j7, j8, j9⟩, hj⟩ : ∃ p, editV ⟨i, t, v, q, b, opOf s5, opOf s6, d⟩ (opOf op) = p := ⟨_, rfl⟩
      have hK5 : spec_EditClient.f i t v q b (opOf s5) (opOf s6) d (opOf op) = some (j1, j2, j3, j4, j5, j6, j7, j8, j9) := by unfold spec_EditClient.f; rw [if_pos ⟨zt, z5, z6, zo⟩, hj]
      obtain ⟨K6, hK6⟩ := Ev.rounds (implEdit_ev ⟨i, t, v, q, b, opOf s5, opOf s6, d⟩ (opOf op) zt z5 z6 zo)
      simp only [hj] at hK6
      rw [hj] at hl
      simp only at hl
      obtain ⟨l6, l7⟩ := hl
      have n5 := opOf_length s5
      have n6 := opOf_length s6
      have no := opOf_length op
      have b1 : 1 + 3 * ((opOf s5).length : Int) + 3 * ((opOf s6).length : Int) ≤ 4000000000000000 := by omega
      have b2 : 1 + 3 * (j6.length : Int) + 3 * (j7.length : Int) ≤ 4000000000000000 := by omega
      have hE1 := eqClient_val ⟨j1, j2, j3, j4, j5, j6, j7, j8⟩ (by simp only [maxLen]; omega) (by simp only [maxLen]; omega)
      have hE2 := eqClient_val ⟨i, t, v, q, b, opOf s5, opOf s6, d⟩ (by simp only [maxLen]; omega) (by simp only [maxLen]; omega)
      simp only at hE1 hE2
      obtain ⟨K7, hK7⟩ := Ev.rounds (eqPartS_ev (opOf op) (by simp only [maxLen]; omega))
      obtain ⟨K8, hK8⟩ := Ev.rounds (markClient_ev i t v q b (opOf s5) (opOf s6) d b1)
      obtain ⟨m1, hm1⟩ : ∃ m1, 1 + 3 * ((opOf s5).length : Int) + 3 * ((opOf s6).length : Int) = m1 := ⟨_, rfl⟩
      rw [hm1] at hK8
      obtain ⟨K9, hK9⟩ := Ev.rounds (markPartS_ev (opOf op) m1 (by omega) (by omega))
      obtain ⟨m2, hm2⟩ : ∃ m2, m1 + 3 * ((opOf op).length : Int) = m2 := ⟨_, rfl⟩
      rw [hm2] at hK9
      obtain ⟨K10, hK10⟩ := Ev.rounds (markClient_ev j1 j2 j3 j4 j5 j6 j7 j8 b2)
      obtain ⟨K11, hK11⟩ := Ev.rounds (heldClient_ev j1 j2 j3 j4 j5 j6 j7 j8 b2)
      obtain ⟨m3, hm3⟩ : ∃ m3, 1 + 3 * (j6.length : Int) + 3 * (j7.length : Int) = m3 := ⟨_, rfl⟩
      rw [hm3] at hK10 hK11
      have p2 : ¬ m2 < 0 := by omega
      have p3 : ¬ m3 < 0 := by omega
      have p4 : (m3 != m3) = false := by simp
      have p5 : (j9 != j9) = false := by simp
      have HK3 := mz hK3
      have HK4 := mz hK4
      have HK5 := mz hK5
      have HK6 := mz hK6
      have HK7 := mz hK7
      have HK8 := mz hK8
      have HK9 := mz hK9
      have HK10 := mz hK10
      have HK11 := mz hK11
      have HE1 := mz hE1
      have HE2 := mz hE2
      clear hK3 hK4 hK5 hK6 hK7 hK8 hK9 hK10 hK11 hE1 hE2 hj hm1 hm2 hm3 b1 b2 n5 n6 no l6 l7 z5 z6 zo zt f1 f5 f5' f6 f6' o1 o2 hO hO2 hg2 hr hr2'
      go_enter Try.func4, Try.ntmps4
      go_upto_region 2 with ((with_reducible refine gate_dst (N := 2) rfl ?_); refine bx 2 #[.int .i64 i, .string t, .int .i64 v, .int .i64 q, .bool b, .slice A5 s5.length c5, .slice A6 s6.length c6, .bool d] 42 ?_; intro gC hg w1 hbox hb; have HGC := mz hg; have HB1 := mz hb; have KC := mz hbox; have Z1 := mz hb.size; have HLC : Aside0 (gC < w1.heap.size) := ⟨blk_lt hbox⟩; clear hg hb hbox)
      (try simp only [Act.put, List.setIfInBounds_toArray, List.set_cons_zero, List.set_cons_succ])
      obtain ⟨C0, C1, C2, C3, C4, C5, C6, C7⟩ := cells8 KC.out
      go_wp2_with fail
      clear C0 C1 C2 C3 C4 C5 C6 C7
      refine (laws_szClient.calls K1 i t v q b A5 c5 s5 A6 c6 s6 d 1048576 r _ (Kd.C_below U5.out HB1.out) E5.out (Kd.C_below U6.out HB1.out) E6.out HK1.out).mono ?_
      rintro e w2 ⟨rfl, hb⟩
      have HB2 := mz (below_step HB1.out hb)
      have Z2 := mz (hb).size
      have KC_2 := mz (blk_below KC.out hb)
      clear hb
      go_wp2_with fail
      refine (laws_szPartS.calls K2 A1 c1 op r r2 _ (Kd.C_below U1.out HB2.out) E1.out HK2.out).mono ?_
      rintro e w3 ⟨rfl, hb⟩
      have HB3 := mz (below_step HB2.out hb)
      have Z3 := mz (hb).size
      have KC_3 := mz (blk_below KC_2.out hb)
      clear hb
      obtain ⟨C0, C1, C2, C3, C4, C5, C6, C7⟩ := cells8 KC_3.out
      go_wp2_with fail
      clear C0 C1 C2 C3 C4 C5 C6 C7
      refine (laws_toClient.calls K3 i t v q b A5 c5 s5 A6 c6 s6 d i t v q b (opOf s5) (opOf s6) d _ (Kd.C_below U5.out HB3.out) E5.out (Kd.C_below U6.out HB3.out) E6.out HK3.out).mono ?_
      rintro e w4 ⟨v5, v6, rfl, hR5, hR6, hb⟩
      have HB4 := mz (below_step HB3.out hb)
      have Z4 := mz (hb).size
      have KC_4 := mz (blk_below KC_3.out hb)
      clear hb
      obtain ⟨S5, S5c, eo⟩ := Kd.R_slice hR5
      subst eo
      obtain ⟨S6, S6c, eo⟩ := Kd.R_slice hR6
      subst eo
      have HDS := mz (fun k e e' => hR5.1 k e e'.symm : ∀ k, (Value.slice S5 (opOf s5).length S5c).ownBlock = some k → ¬ (Value.slice S6 (opOf s6).length S6c).ownBlock = some k)
      have RS5 := mz (R_new hR5 HB3.out.size)
      have RS6 := mz (R_new hR6 HB3.out.size)
      clear hR5 hR6
      go_wp2_with fail
      refine (laws_toPartS.calls K4 A1 c1 op (opOf op) _ (Kd.C_below U1.out HB4.out) E1.out HK4.out).mono ?_
      rintro e w5 ⟨vo, rfl, hRo, hb⟩
      have HB5 := mz (below_step HB4.out hb)
      have Z5 := mz (hb).size
      have KC_5 := mz (blk_below KC_4.out hb)
      have RS5_5 := mz (Kd.R_below RS5.out hb)
      have RS6_5 := mz (Kd.R_below RS6.out hb)
      clear hb
      obtain ⟨O, Oc, eo⟩ := Kd.R_slice hRo
      subst eo
      have RO := mz (R_new hRo HB4.out.size)
      clear hRo
      go_wp2_with fail
      refine (spec_EditClient.calls i t v q b S5 S5c (opOf s5) S6 S6c (opOf s6) d O Oc (opOf op) j1 j2 j3 j4 j5 j6 j7 j8 j9 _ (Kd.R_reads' RS5_5.out).2.2 (Kd.R_reads' RS5_5.out).2.1 (Kd.R_reads' RS6_5.out).2.2 (Kd.R_reads' RS6_5.out).2.1 (Kd.R_reads' RO.out).2.2 (Kd.R_reads' RO.out).2.1 HK5.out).mono ?_
      rintro e w6 ⟨v5, v6, rfl, hR5, hR6, hb⟩
      have HB6 := mz (below_step HB5.out hb)
      have Z6 := mz (hb).size
      have KC_6 := mz (blk_below KC_5.out hb)
      have RS5_6 := mz (Kd.R_below RS5_5.out hb)
      have RS6_6 := mz (Kd.R_below RS6_5.out hb)
      have RO_6 := mz (Kd.R_below RO.out hb)
      clear hb
      obtain ⟨W5, W5c, eo⟩ := Kd.R_slice hR5
      subst eo
      obtain ⟨W6, W6c, eo⟩ := Kd.R_slice hR6
      subst eo
      have HDW := mz (fun k e e' => hR5.1 k e e'.symm : ∀ k, (Value.slice W5 j6.length W5c).ownBlock = some k → ¬ (Value.slice W6 j7.length W6c).ownBlock = some k)
      have RW5 := mz (R_new hR5 HB5.out.size)
      have RW6 := mz (R_new hR6 HB5.out.size)
      clear hR5 hR6
      go_upto_region 9 with ((with_reducible refine gate_dst (N := 6) rfl ?_); refine bx 6 #[.int .i64 0, .string ⟨#[]⟩, .int .i64 0, .int .i64 0, .bool false, .slice none 0 0, .slice none 0 0, .bool false] 45 ?_; intro gW hg wx hbox hb; have HX := mz hg; have Bx := mz hb; have KX := mz hbox; obtain ⟨y0, y1, y2, y3, y4, y5, y6, y7⟩ := cells8 hbox; obtain ⟨z0, z1, z2, z3, z4, z5, z6, z7⟩ := froz8 hbox; clear hg hbox hb)
      have hp := put8 (.int .i64 j1) (.string j2) (.int .i64 j3) (.int .i64 j4) (.bool j5) (.slice W5 j6.length W5c) (.slice W6 j7.length W6c) (.bool j8) Bx.out (Nat.le_of_eq HX.out.symm) KX.out
      have KN := mz hp.1
      have Bz := mz hp.2.1
      clear hp y0 y1 y2 y3 y4 y5 y6 y7 z0 z1 z2 z3 z4 z5 z6 z7 Bx KX
      generalize (((((((wx.setCell ⟨gW, 0, none⟩ (.int .i64 j1)).setCell ⟨gW, 1, none⟩ (.string j2)).setCell ⟨gW, 2, none⟩ (.int .i64 j3)).setCell ⟨gW, 3, none⟩ (.int .i64 j4)).setCell ⟨gW, 4, none⟩ (.bool j5)).setCell ⟨gW, 5, none⟩ (.slice W5 j6.length W5c)).setCell ⟨gW, 6, none⟩ (.slice W6 j7.length W6c)).setCell ⟨gW, 7, none⟩ (.bool j8) = w7 at KN Bz ⊢
      have HB7 := mz (below_step HB6.out Bz.out)
      have Z7 := mz (Bz.out).size
      have KC_7 := mz (blk_below KC_6.out Bz.out)
      have RW5_7 := mz (Kd.R_below RW5.out Bz.out)
      have RW6_7 := mz (Kd.R_below RW6.out Bz.out)
      have KW := mz KN.out
      have HGW := mz HX.out
      have HLW : Aside0 (gW < w7.heap.size) := ⟨blk_lt KN.out⟩
      clear KN Bz HX
      obtain ⟨C0, C1, C2, C3, C4, C5, C6, C7⟩ := cells8 KC_7.out
      go_wp2_with fail
      clear C0 C1 C2 C3 C4 C5 C6 C7
      refine (laws_toClient.calls K3 i t v q b A5 c5 s5 A6 c6 s6 d i t v q b (opOf s5) (opOf s6) d _ (Kd.C_below U5.out HB7.out) E5.out (Kd.C_below U6.out HB7.out) E6.out HK3.out).mono ?_
      rintro e w8 ⟨v5, v6, rfl, hR5, hR6, hb⟩
      have HB8 := mz (below_step HB7.out hb)
      have Z8 := mz (hb).size
      have KC_8 := mz (blk_below KC_7.out hb)
      have KW_8 := mz (blk_below KW.out hb)
      have RW5_8 := mz (Kd.R_below RW5_7.out hb)
      have RW6_8 := mz (Kd.R_below RW6_7.out hb)
      clear hb
      obtain ⟨X5, X5c, eo⟩ := Kd.R_slice hR5
      subst eo
      obtain ⟨X6, X6c, eo⟩ := Kd.R_slice hR6
      subst eo
      have HDX := mz (fun k e e' => hR5.1 k e e'.symm : ∀ k, (Value.slice X5 (opOf s5).length X5c).ownBlock = some k → ¬ (Value.slice X6 (opOf s6).length X6c).ownBlock = some k)
      have RX5 := mz (R_new hR5 HB7.out.size)
      have RX6 := mz (R_new hR6 HB7.out.size)
      clear hR5 hR6
      go_upto_region 10 with ((with_reducible refine gate_dst (N := 8) rfl ?_); refine bx 8 #[.int .i64 0, .string ⟨#[]⟩, .int .i64 0, .int .i64 0, .bool false, .slice none 0 0, .slice none 0 0, .bool false] 45 ?_; intro gX hg wx hbox hb; have HX := mz hg; have Bx := mz hb; have KX := mz hbox; obtain ⟨y0, y1, y2, y3, y4, y5, y6, y7⟩ := cells8 hbox; obtain ⟨z0, z1, z2, z3, z4, z5, z6, z7⟩ := froz8 hbox; clear hg hbox hb)
      have hp := put8 (.int .i64 i) (.string t) (.int .i64 v) (.int .i64 q) (.bool b) (.slice X5 (opOf s5).length X5c) (.slice X6 (opOf s6).length X6c) (.bool d) Bx.out (Nat.le_of_eq HX.out.symm) KX.out
      have KN := mz hp.1
      have Bz := mz hp.2.1
      clear hp y0 y1 y2 y3 y4 y5 y6 y7 z0 z1 z2 z3 z4 z5 z6 z7 Bx KX
      generalize (((((((wx.setCell ⟨gX, 0, none⟩ (.int .i64 i)).setCell ⟨gX, 1, none⟩ (.string t)).setCell ⟨gX, 2, none⟩ (.int .i64 v)).setCell ⟨gX, 3, none⟩ (.int .i64 q)).setCell ⟨gX, 4, none⟩ (.bool b)).setCell ⟨gX, 5, none⟩ (.slice X5 (opOf s5).length X5c)).setCell ⟨gX, 6, none⟩ (.slice X6 (opOf s6).length X6c)).setCell ⟨gX, 7, none⟩ (.bool d) = w9 at KN Bz ⊢
      have HB9 := mz (below_step HB8.out Bz.out)
      have Z9 := mz (Bz.out).size
      have KC_9 := mz (blk_below KC_8.out Bz.out)
      have KW_9 := mz (blk_below KW_8.out Bz.out)
      have RW5_9 := mz (Kd.R_below RW5_8.out Bz.out)
      have RW6_9 := mz (Kd.R_below RW6_8.out Bz.out)
      have RX5_9 := mz (Kd.R_below RX5.out Bz.out)
      have RX6_9 := mz (Kd.R_below RX6.out Bz.out)
      have KX := mz KN.out
      have HGX := mz HX.out
      have HLX : Aside0 (gX < w9.heap.size) := ⟨blk_lt KN.out⟩
      clear KN Bz HX
      go_wp2_with fail
      refine (laws_toPartS.calls K4 A1 c1 op (opOf op) _ (Kd.C_below U1.out HB9.out) E1.out HK4.out).mono ?_
      rintro e w10 ⟨vo, rfl, hRo, hb⟩
      have HB10 := mz (below_step HB9.out hb)
      have Z10 := mz (hb).size
      have KC_10 := mz (blk_below KC_9.out hb)
      have KW_10 := mz (blk_below KW_9.out hb)
      have KX_10 := mz (blk_below KX.out hb)
      have RW5_10 := mz (Kd.R_below RW5_9.out hb)
      have RW6_10 := mz (Kd.R_below RW6_9.out hb)
      have RX5_10 := mz (Kd.R_below RX5_9.out hb)
      have RX6_10 := mz (Kd.R_below RX6_9.out hb)
      clear hb
      obtain ⟨O1, O1c, eo⟩ := Kd.R_slice hRo
      subst eo
      have RO1 := mz (R_new hRo HB9.out.size)
      clear hRo
      obtain ⟨X0, X1, X2, X3, X4, X5, X6, X7⟩ := cells8 KX_10.out
      go_wp2_with fail
      clear X0 X1 X2 X3 X4 X5 X6 X7
      refine (impl_EditClient.calls K6 i t v q b X5 X5c (opOf s5) X6 X6c (opOf s6) d O1 O1c (opOf op) j1 j2 j3 j4 j5 j6 j7 j8 j9 _ (Kd.R_reads' RX5_10.out).2.2 (Kd.R_reads' RX5_10.out).2.1 (Kd.R_reads' RX6_10.out).2.2 (Kd.R_reads' RX6_10.out).2.1 (Kd.R_reads' RO1.out).2.2 (Kd.R_reads' RO1.out).2.1 HK6.out).mono ?_
      rintro e w11 ⟨v5, v6, rfl, hR5, hR6, hb⟩
      have HB11 := mz (below_step HB10.out hb)
      have Z11 := mz (hb).size
      have KC_11 := mz (blk_below KC_10.out hb)
      have KW_11 := mz (blk_below KW_10.out hb)
      have KX_11 := mz (blk_below KX_10.out hb)
      have RW5_11 := mz (Kd.R_below RW5_10.out hb)
      have RW6_11 := mz (Kd.R_below RW6_10.out hb)
      have RX5_11 := mz (Kd.R_below RX5_10.out hb)
      have RX6_11 := mz (Kd.R_below RX6_10.out hb)
      have RO1_11 := mz (Kd.R_below RO1.out hb)
      clear hb
      obtain ⟨G5, G5c, eo⟩ := Kd.R_slice hR5
      subst eo
      obtain ⟨G6, G6c, eo⟩ := Kd.R_slice hR6
      subst eo
      have HDG := mz (fun k e e' => hR5.1 k e e'.symm : ∀ k, (Value.slice G5 j6.length G5c).ownBlock = some k → ¬ (Value.slice G6 j7.length G6c).ownBlock = some k)
      have RG5 := mz (R_new hR5 HB10.out.size)
      have RG6 := mz (R_new hR6 HB10.out.size)
      clear hR5 hR6
      go_upto_region 12 with ((with_reducible refine gate_dst (N := 10) rfl ?_); refine bx 10 #[.int .i64 0, .string ⟨#[]⟩, .int .i64 0, .int .i64 0, .bool false, .slice none 0 0, .slice none 0 0, .bool false] 45 ?_; intro gG hg wx hbox hb; have HX := mz hg; have Bx := mz hb; have KX := mz hbox; obtain ⟨y0, y1, y2, y3, y4, y5, y6, y7⟩ := cells8 hbox; obtain ⟨z0, z1, z2, z3, z4, z5, z6, z7⟩ := froz8 hbox; clear hg hbox hb)
      have hp := put8 (.int .i64 j1) (.string j2) (.int .i64 j3) (.int .i64 j4) (.bool j5) (.slice G5 j6.length G5c) (.slice G6 j7.length G6c) (.bool j8) Bx.out (Nat.le_of_eq HX.out.symm) KX.out
      have KN := mz hp.1
      have Bz := mz hp.2.1
      clear hp y0 y1 y2 y3 y4 y5 y6 y7 z0 z1 z2 z3 z4 z5 z6 z7 Bx KX
      generalize (((((((wx.setCell ⟨gG, 0, none⟩ (.int .i64 j1)).setCell ⟨gG, 1, none⟩ (.string j2)).setCell ⟨gG, 2, none⟩ (.int .i64 j3)).setCell ⟨gG, 3, none⟩ (.int .i64 j4)).setCell ⟨gG, 4, none⟩ (.bool j5)).setCell ⟨gG, 5, none⟩ (.slice G5 j6.length G5c)).setCell ⟨gG, 6, none⟩ (.slice G6 j7.length G6c)).setCell ⟨gG, 7, none⟩ (.bool j8) = w12 at KN Bz ⊢
      have HB12 := mz (below_step HB11.out Bz.out)
      have Z12 := mz (Bz.out).size
      have KC_12 := mz (blk_below KC_11.out Bz.out)
      have KW_12 := mz (blk_below KW_11.out Bz.out)
      have KX_12 := mz (blk_below KX_11.out Bz.out)
      have RW5_12 := mz (Kd.R_below RW5_11.out Bz.out)
      have RW6_12 := mz (Kd.R_below RW6_11.out Bz.out)
      have RX5_12 := mz (Kd.R_below RX5_11.out Bz.out)
      have RX6_12 := mz (Kd.R_below RX6_11.out Bz.out)
      have RO1_12 := mz (Kd.R_below RO1_11.out Bz.out)
      have RG5_12 := mz (Kd.R_below RG5.out Bz.out)
      have RG6_12 := mz (Kd.R_below RG6.out Bz.out)
      have KG := mz KN.out
      have HGG := mz HX.out
      have HLG : Aside0 (gG < w12.heap.size) := ⟨blk_lt KN.out⟩
      clear KN Bz HX
      obtain ⟨G0, G1, G2, G3, G4, G5, G6, G7⟩ := cells8 KG.out
      obtain ⟨W0, W1, W2, W3, W4, W5, W6, W7⟩ := cells8 KW_12.out
      go_wp2_with fail
      clear G0 G1 G2 G3 G4 G5 G6 G7
      clear W0 W1 W2 W3 W4 W5 W6 W7
      refine (laws_eqClient.calls j1 j2 j3 j4 j5 G5 G5c j6 G6 G6c j7 j8 j1 j2 j3 j4 j5 W5 W5c j6 W6 W6c j7 j8 true _ (Kd.R_reads' RG5_12.out).2.2 (Kd.R_reads' RG5_12.out).2.1 (Kd.R_reads' RG6_12.out).2.2 (Kd.R_reads' RG6_12.out).2.1 (Kd.R_reads' RW5_12.out).2.2 (Kd.R_reads' RW5_12.out).2.1 (Kd.R_reads' RW6_12.out).2.2 (Kd.R_reads' RW6_12.out).2.1 HE1.out).mono ?_
      rintro e w13 ⟨rfl, hb⟩
      have HB13 := mz (below_step HB12.out hb)
      have Z13 := mz (hb).size
      have KC_13 := mz (blk_below KC_12.out hb)
      have KW_13 := mz (blk_below KW_12.out hb)
      have KX_13 := mz (blk_below KX_12.out hb)
      have KG_13 := mz (blk_below KG.out hb)
      have RW5_13 := mz (Kd.R_below RW5_12.out hb)
      have RW6_13 := mz (Kd.R_below RW6_12.out hb)
      have RX5_13 := mz (Kd.R_below RX5_12.out hb)
      have RX6_13 := mz (Kd.R_below RX6_12.out hb)
      have RO1_13 := mz (Kd.R_below RO1_12.out hb)
      have RG5_13 := mz (Kd.R_below RG5_12.out hb)
      have RG6_13 := mz (Kd.R_below RG6_12.out hb)
      clear hb
      go_upto_region 14 with fail
      have F : ∀ W' : World, (W'.heap[gX]? = some (.cells #[.int .i64 i, .string t, .int .i64 v, .int .i64 q, .bool b, .slice X5 (opOf s5).length X5c, .slice X6 (opOf s6).length X6c, .bool d] 45 (0, 0)) ∧ W'.heap[gC]? = some (.cells #[.int .i64 i, .string t, .int .i64 v, .int .i64 q, .bool b, .slice A5 s5.length c5, .slice A6 s6.length c6, .bool d] 42 (0, 0)) ∧ Below w13.heap.size w13 W') → (W'.cell? ⟨gX, 0, none⟩ = some (.int .i64 i) ∧ W'.cell? ⟨gX, 1, none⟩ = some (.string t) ∧ W'.cell? ⟨gX, 2, none⟩ = some (.int .i64 v) ∧ W'.cell? ⟨gX, 3, none⟩ = some (.int .i64 q) ∧ W'.cell? ⟨gX, 4, none⟩ = some (.bool b) ∧ W'.cell? ⟨gX, 5, none⟩ = some (.slice X5 (opOf s5).length X5c) ∧ W'.cell? ⟨gX, 6, none⟩ = some (.slice X6 (opOf s6).length X6c) ∧ W'.cell? ⟨gX, 7, none⟩ = some (.bool d)) ∧ (W'.cell? ⟨gC, 0, none⟩ = some (.int .i64 i) ∧ W'.cell? ⟨gC, 1, none⟩ = some (.string t) ∧ W'.cell? ⟨gC, 2, none⟩ = some (.int .i64 v) ∧ W'.cell? ⟨gC, 3, none⟩ = some (.int .i64 q) ∧ W'.cell? ⟨gC, 4, none⟩ = some (.bool b) ∧ W'.cell? ⟨gC, 5, none⟩ = some (.slice A5 s5.length c5) ∧ W'.cell? ⟨gC, 6, none⟩ = some (.slice A6 s6.length c6) ∧ W'.cell? ⟨gC, 7, none⟩ = some (.bool d)) := fun W' hb => ⟨cells8 hb.1, cells8 hb.2.1⟩
      refine wp_region_held_drew (S := fun W' => W'.heap[gX]? = some (.cells #[.int .i64 i, .string t, .int .i64 v, .int .i64 q, .bool b, .slice X5 (opOf s5).length X5c, .slice X6 (opOf s6).length X6c, .bool d] 45 (0, 0)) ∧ W'.heap[gC]? = some (.cells #[.int .i64 i, .string t, .int .i64 v, .int .i64 q, .bool b, .slice A5 s5.length c5, .slice A6 s6.length c6, .bool d] 42 (0, 0)) ∧ Below w13.heap.size w13 W') (by kernel_rfl) ⟨KX_13.out, KC_13.out, below_drew1 (Below.refl _ _)⟩ (fun Y => ?_)
      refine' tF 0 F ?_
      refine' tF 1 F ?_
      refine tC 2 (laws_toClient.calls K3 i t v q b A5 c5 s5 A6 c6 s6 d i t v q b (opOf s5) (opOf s6) d _ (Kd.C_below U5.out (below_step HB13.out Y.2.2)) E5.out (Kd.C_below U6.out (below_step HB13.out Y.2.2)) E6.out HK3.out) ?_
      rintro e wa ⟨v5, v6, rfl, hR5, hR6, hb⟩
      obtain ⟨T5, T5c, eo⟩ := Kd.R_slice hR5
      subst eo
      obtain ⟨T6, T6c, eo⟩ := Kd.R_slice hR6
      subst eo
      have RT5 := mz hR5
      have RT6 := mz hR6
      clear hR5 hR6
      refine ⟨_, rfl, ⟨blk_below Y.1 hb, blk_below Y.2.1 hb, below_step Y.2.2 hb⟩, ?_⟩
      intro a' ha'
      (try simp only [Act.put, List.getElem_toArray, List.getElem_cons_succ, List.getElem_cons_zero, List.setIfInBounds_toArray, List.set_cons_zero, List.set_cons_succ] at ha')
      subst ha'
      intro Y2
      refine tC 3 (laws_eqClient.calls i t v q b X5 X5c (opOf s5) X6 X6c (opOf s6) d i t v q b T5 T5c (opOf s5) T6 T6c (opOf s6) d true _ (Kd.R_reads' (Kd.R_below RX5_13.out Y2.2.2)).2.2 (Kd.R_reads' RX5_13.out).2.1 (Kd.R_reads' (Kd.R_below RX6_13.out Y2.2.2)).2.2 (Kd.R_reads' RX6_13.out).2.1 (Kd.R_reads' RT5.out).2.2 (Kd.R_reads' RT5.out).2.1 (Kd.R_reads' RT6.out).2.2 (Kd.R_reads' RT6.out).2.1 HE2.out) ?_
      rintro e wb ⟨rfl, hb⟩
      refine ⟨_, rfl, ⟨blk_below Y2.1 hb, blk_below Y2.2.1 hb, below_step Y2.2.2 hb⟩, ?_⟩
      intro a' ha'
      (try simp only [Act.put, List.getElem_toArray, List.getElem_cons_succ, List.getElem_cons_zero, List.setIfInBounds_toArray, List.set_cons_zero, List.set_cons_succ] at ha')
      subst ha'
      intro Y3
      refine' tF 4 F ?_
      refine wpAnyH_done (by kernel_rfl) ?_ _
      have hb := Y3.2.2
      clear F Y Y2 Y3 RT5 RT6
      generalize wb = w14 at hb ⊢
      have HB14 := mz (below_step HB13.out hb)
      have Z14 := mz (hb).size
      have KC_14 := mz (blk_below KC_13.out hb)
      have KW_14 := mz (blk_below KW_13.out hb)
      have KX_14 := mz (blk_below KX_13.out hb)
      have KG_14 := mz (blk_below KG_13.out hb)
      have RW5_14 := mz (Kd.R_below RW5_13.out hb)
      have RW6_14 := mz (Kd.R_below RW6_13.out hb)
      have RX5_14 := mz (Kd.R_below RX5_13.out hb)
      have RX6_14 := mz (Kd.R_below RX6_13.out hb)
      have RO1_14 := mz (Kd.R_below RO1_13.out hb)
      have RG5_14 := mz (Kd.R_below RG5_13.out hb)
      have RG6_14 := mz (Kd.R_below RG6_13.out hb)
      clear hb
      go_wp2_with fail
      refine (laws_toPartS.calls K4 A1 c1 op (opOf op) _ (Kd.C_below U1.out HB14.out) E1.out HK4.out).mono ?_
      rintro e w15 ⟨vo, rfl, hRo, hb⟩
      have HB15 := mz (below_step HB14.out hb)
      have Z15 := mz (hb).size
      have KC_15 := mz (blk_below KC_14.out hb)
      have KW_15 := mz (blk_below KW_14.out hb)
      have KX_15 := mz (blk_below KX_14.out hb)
      have KG_15 := mz (blk_below KG_14.out hb)
      have RW5_15 := mz (Kd.R_below RW5_14.out hb)
      have RW6_15 := mz (Kd.R_below RW6_14.out hb)
      have RX5_15 := mz (Kd.R_below RX5_14.out hb)
      have RX6_15 := mz (Kd.R_below RX6_14.out hb)
      have RO1_15 := mz (Kd.R_below RO1_14.out hb)
      have RG5_15 := mz (Kd.R_below RG5_14.out hb)
      have RG6_15 := mz (Kd.R_below RG6_14.out hb)
      clear hb
      obtain ⟨O2, O2c, eo⟩ := Kd.R_slice hRo
      subst eo
      have RO2 := mz (R_new hRo HB14.out.size)
      clear hRo
      go_wp2_with fail
      refine (laws_eqPartS.calls K7 O1 O1c (opOf op) O2 O2c (opOf op) true _ (Kd.R_reads' RO1_15.out).2.2 (Kd.R_reads' RO1_15.out).2.1 (Kd.R_reads' RO2.out).2.2 (Kd.R_reads' RO2.out).2.1 HK7.out).mono ?_
      rintro e w16 ⟨rfl, hb⟩
      have HB16 := mz (below_step HB15.out hb)
      have Z16 := mz (hb).size
      have KC_16 := mz (blk_below KC_15.out hb)
      have KW_16 := mz (blk_below KW_15.out hb)
      have KX_16 := mz (blk_below KX_15.out hb)
      have KG_16 := mz (blk_below KG_15.out hb)
      have RW5_16 := mz (Kd.R_below RW5_15.out hb)
      have RW6_16 := mz (Kd.R_below RW6_15.out hb)
      have RX5_16 := mz (Kd.R_below RX5_15.out hb)
      have RX6_16 := mz (Kd.R_below RX6_15.out hb)
      have RO1_16 := mz (Kd.R_below RO1_15.out hb)
      have RG5_16 := mz (Kd.R_below RG5_15.out hb)
      have RG6_16 := mz (Kd.R_below RG6_15.out hb)
      have RO2_16 := mz (Kd.R_below RO2.out hb)
      clear hb
      obtain ⟨X0, X1, X2, X3, X4, X5, X6, X7⟩ := cells8 KX_16.out
      go_wp2_with fail
      clear X0 X1 X2 X3 X4 X5 X6 X7
      have q5 := R_self RX5_16.out
      have q6 := R_self RX6_16.out
      have qd := HDX.out
      refine (laws_markClient.calls K8 i t v q b (fun k => (Value.slice X5 (opOf s5).length X5c).ownBlock = some k) (.slice X5 (opOf s5).length X5c) (opOf s5) (fun k => (Value.slice X6 (opOf s6).length X6c).ownBlock = some k) (.slice X6 (opOf s6).length X6c) (opOf s6) d 1 m1 (markP 1 (opOf s5)) (markP (1 + 3 * ((opOf s5).length : Int)) (opOf s6)) w _ HB16.out q5 qd q6 (fun k h h' => qd k h' h) HK8.out).mono ?_
      rintro e w17 ⟨rfl, hM5, hM6, hb, hk⟩
      replace hk := kept_sub (S' := fun k => w7.heap.size ≤ k ∧ k < w8.heap.size) hk (fun k hk => (by rcases hk with e | e; (· exact RX5_16.out.1 k e); (· exact RX6_16.out.1 k e)))
      clear q5 q6 qd
      have z1 := Z1.out
      have z2 := Z2.out
      have z3 := Z3.out
      have z4 := Z4.out
      have z5 := Z5.out
      have z6 := Z6.out
      have z7 := Z7.out
      have z8 := Z8.out
      have z9 := Z9.out
      have z10 := Z10.out
      have z11 := Z11.out
      have z12 := Z12.out
      have z13 := Z13.out
      have z14 := Z14.out
      have z15 := Z15.out
      have z16 := Z16.out
      have g1C := HGC.out
      have g1W := HGW.out
      have g1X := HGX.out
      have g1G := HGG.out
      have g2C := HLC.out
      have g2W := HLW.out
      have g2X := HLX.out
      have g2G := HLG.out
      have HB17 := mz hb
      have Z17 := mz hk.1
      have KC_17 := mz (blk_keptE KC_16.out hk (fun h => by have ha := h.1; have hc := h.2; omega))
      have KW_17 := mz (blk_keptE KW_16.out hk (fun h => by have ha := h.1; have hc := h.2; omega))
      have KX_17 := mz (blk_keptE KX_16.out hk (fun h => by have ha := h.1; have hc := h.2; omega))
      have KG_17 := mz (blk_keptE KG_16.out hk (fun h => by have ha := h.1; have hc := h.2; omega))
      have RW5_17 := mz (R_keptE RW5_16.out hk (fun k h1 h2 h => by have ha := h.1; have hc := h.2; omega))
      have RW6_17 := mz (R_keptE RW6_16.out hk (fun k h1 h2 h => by have ha := h.1; have hc := h.2; omega))
      have RO1_17 := mz (R_keptE RO1_16.out hk (fun k h1 h2 h => by have ha := h.1; have hc := h.2; omega))
      have RG5_17 := mz (R_keptE RG5_16.out hk (fun k h1 h2 h => by have ha := h.1; have hc := h.2; omega))
      have RG6_17 := mz (R_keptE RG6_16.out hk (fun k h1 h2 h => by have ha := h.1; have hc := h.2; omega))
      clear z1 z2 z3 z4 z5 z6 z7 z8 z9 z10 z11 z12 z13 z14 z15 z16 g1C g2C g1W g2W g1X g2X g1G g2G
      have RM5X := mz hM5
      have RM6X := mz hM6
      clear hb hk hM5 hM6
      go_wp2_with fail
      refine (laws_markPartS.calls K9 (fun k => w9.heap.size ≤ k ∧ k < w10.heap.size) (.slice O1 (opOf op).length O1c) (opOf op) m1 m2 (markP m1 (opOf op)) w _ HB17.out RO1_17.out HK9.out).mono ?_
      rintro e w18 ⟨rfl, hM, hb, hk⟩
      have z1 := Z1.out
      have z2 := Z2.out
      have z3 := Z3.out
      have z4 := Z4.out
      have z5 := Z5.out
      have z6 := Z6.out
      have z7 := Z7.out
      have z8 := Z8.out
      have z9 := Z9.out
      have z10 := Z10.out
      have z11 := Z11.out
      have z12 := Z12.out
      have z13 := Z13.out
      have z14 := Z14.out
      have z15 := Z15.out
      have z16 := Z16.out
      have z17 := Z17.out
      have g1C := HGC.out
      have g1W := HGW.out
      have g1X := HGX.out
      have g1G := HGG.out
      have g2C := HLC.out
      have g2W := HLW.out
      have g2X := HLX.out
      have g2G := HLG.out
      have HB18 := mz hb
      have Z18 := mz hk.1
      have KC_18 := mz (blk_keptE KC_17.out hk (fun h => by have ha := h.1; have hc := h.2; omega))
      have KW_18 := mz (blk_keptE KW_17.out hk (fun h => by have ha := h.1; have hc := h.2; omega))
      have KX_18 := mz (blk_keptE KX_17.out hk (fun h => by have ha := h.1; have hc := h.2; omega))
      have KG_18 := mz (blk_keptE KG_17.out hk (fun h => by have ha := h.1; have hc := h.2; omega))
      have RW5_18 := mz (R_keptE RW5_17.out hk (fun k h1 h2 h => by have ha := h.1; have hc := h.2; omega))
      have RW6_18 := mz (R_keptE RW6_17.out hk (fun k h1 h2 h => by have ha := h.1; have hc := h.2; omega))
      have RG5_18 := mz (R_keptE RG5_17.out hk (fun k h1 h2 h => by have ha := h.1; have hc := h.2; omega))
      have RG6_18 := mz (R_keptE RG6_17.out hk (fun k h1 h2 h => by have ha := h.1; have hc := h.2; omega))
      clear z1 z2 z3 z4 z5 z6 z7 z8 z9 z10 z11 z12 z13 z14 z15 z16 z17 g1C g2C g1W g2W g1X g2X g1G g2G
      clear hb hk hM
      obtain ⟨G0, G1, G2, G3, G4, G5, G6, G7⟩ := cells8 KG_18.out
      obtain ⟨W0, W1, W2, W3, W4, W5, W6, W7⟩ := cells8 KW_18.out
      go_wp2_with fail
      clear G0 G1 G2 G3 G4 G5 G6 G7
      clear W0 W1 W2 W3 W4 W5 W6 W7
      refine (laws_eqClient.calls j1 j2 j3 j4 j5 G5 G5c j6 G6 G6c j7 j8 j1 j2 j3 j4 j5 W5 W5c j6 W6 W6c j7 j8 true _ (Kd.R_reads' RG5_18.out).2.2 (Kd.R_reads' RG5_18.out).2.1 (Kd.R_reads' RG6_18.out).2.2 (Kd.R_reads' RG6_18.out).2.1 (Kd.R_reads' RW5_18.out).2.2 (Kd.R_reads' RW5_18.out).2.1 (Kd.R_reads' RW6_18.out).2.2 (Kd.R_reads' RW6_18.out).2.1 HE1.out).mono ?_
      rintro e w19 ⟨rfl, hb⟩
      have HB19 := mz (below_step HB18.out hb)
      have Z19 := mz (hb).size
      have KC_19 := mz (blk_below KC_18.out hb)
      have KW_19 := mz (blk_below KW_18.out hb)
      have KX_19 := mz (blk_below KX_18.out hb)
      have KG_19 := mz (blk_below KG_18.out hb)
      have RW5_19 := mz (Kd.R_below RW5_18.out hb)
      have RW6_19 := mz (Kd.R_below RW6_18.out hb)
      have RG5_19 := mz (Kd.R_below RG5_18.out hb)
      have RG6_19 := mz (Kd.R_below RG6_18.out hb)
      clear hb
      obtain ⟨G0, G1, G2, G3, G4, G5, G6, G7⟩ := cells8 KG_19.out
      go_wp2_with fail
      clear G0 G1 G2 G3 G4 G5 G6 G7
      have q5 := R_self RG5_19.out
      have q6 := R_self RG6_19.out
      have qd := HDG.out
      refine (laws_markClient.calls K10 j1 j2 j3 j4 j5 (fun k => (Value.slice G5 j6.length G5c).ownBlock = some k) (.slice G5 j6.length G5c) j6 (fun k => (Value.slice G6 j7.length G6c).ownBlock = some k) (.slice G6 j7.length G6c) j7 j8 1 m3 (markP 1 j6) (markP (1 + 3 * (j6.length : Int)) j7) w _ HB19.out q5 qd q6 (fun k h h' => qd k h' h) HK10.out).mono ?_
      rintro e w20 ⟨rfl, hM5, hM6, hb, hk⟩
      replace hk := kept_sub (S' := fun k => w10.heap.size ≤ k ∧ k < w11.heap.size) hk (fun k hk => (by rcases hk with e | e; (· exact RG5_19.out.1 k e); (· exact RG6_19.out.1 k e)))
      clear q5 q6 qd
      have z1 := Z1.out
      have z2 := Z2.out
      have z3 := Z3.out
      have z4 := Z4.out
      have z5 := Z5.out
      have z6 := Z6.out
      have z7 := Z7.out
      have z8 := Z8.out
      have z9 := Z9.out
      have z10 := Z10.out
      have z11 := Z11.out
      have z12 := Z12.out
      have z13 := Z13.out
      have z14 := Z14.out
      have z15 := Z15.out
      have z16 := Z16.out
      have z17 := Z17.out
      have z18 := Z18.out
      have z19 := Z19.out
      have g1C := HGC.out
      have g1W := HGW.out
      have g1X := HGX.out
      have g1G := HGG.out
      have g2C := HLC.out
      have g2W := HLW.out
      have g2X := HLX.out
      have g2G := HLG.out
      have HB20 := mz hb
      have Z20 := mz hk.1
      have KC_20 := mz (blk_keptE KC_19.out hk (fun h => by have ha := h.1; have hc := h.2; omega))
      have KW_20 := mz (blk_keptE KW_19.out hk (fun h => by have ha := h.1; have hc := h.2; omega))
      have KX_20 := mz (blk_keptE KX_19.out hk (fun h => by have ha := h.1; have hc := h.2; omega))
      have KG_20 := mz (blk_keptE KG_19.out hk (fun h => by have ha := h.1; have hc := h.2; omega))
      have RW5_20 := mz (R_keptE RW5_19.out hk (fun k h1 h2 h => by have ha := h.1; have hc := h.2; omega))
      have RW6_20 := mz (R_keptE RW6_19.out hk (fun k h1 h2 h => by have ha := h.1; have hc := h.2; omega))
      clear z1 z2 z3 z4 z5 z6 z7 z8 z9 z10 z11 z12 z13 z14 z15 z16 z17 z18 z19 g1C g2C g1W g2W g1X g2X g1G g2G
      have RM5G := mz hM5
      have RM6G := mz hM6
      clear hb hk hM5 hM6
      obtain ⟨G0, G1, G2, G3, G4, G5, G6, G7⟩ := cells8 KG_20.out
      go_wp2_with fail
      clear G0 G1 G2 G3 G4 G5 G6 G7
      refine (heldC_at j1 j2 j3 j4 j5 G5 G5c j6 G6 G6c j7 j8 _ _ _ _ RM5G.out RM6G.out K11 m3 HK11.out).mono ?_
      rintro e w21 ⟨rfl, hb⟩
      have HB21 := mz (below_step HB20.out hb)
      have Z21 := mz (hb).size
      have KC_21 := mz (blk_below KC_20.out hb)
      have KW_21 := mz (blk_below KW_20.out hb)
      have KX_21 := mz (blk_below KX_20.out hb)
      have KG_21 := mz (blk_below KG_20.out hb)
      have RW5_21 := mz (Kd.R_below RW5_20.out hb)
      have RW6_21 := mz (Kd.R_below RW6_20.out hb)
      have RM5_21 := mz (Kd.R_below RM5G.out hb)
      have RM6_21 := mz (Kd.R_below RM6G.out hb)
      clear hb
      obtain ⟨C0, C1, C2, C3, C4, C5, C6, C7⟩ := cells8 KC_21.out
      go_wp2_with fail
      clear C0 C1 C2 C3 C4 C5 C6 C7
      refine (laws_toClient.calls K3 i t v q b A5 c5 s5 A6 c6 s6 d i t v q b (opOf s5) (opOf s6) d _ (Kd.C_below U5.out HB21.out) E5.out (Kd.C_below U6.out HB21.out) E6.out HK3.out).mono ?_
      rintro e w22 ⟨v5, v6, rfl, hR5, hR6, hb⟩
      have HB22 := mz (below_step HB21.out hb)
      have Z22 := mz (hb).size
      have KC_22 := mz (blk_below KC_21.out hb)
      have KW_22 := mz (blk_below KW_21.out hb)
      have KX_22 := mz (blk_below KX_21.out hb)
      have KG_22 := mz (blk_below KG_21.out hb)
      have RW5_22 := mz (Kd.R_below RW5_21.out hb)
      have RW6_22 := mz (Kd.R_below RW6_21.out hb)
      have RM5_22 := mz (Kd.R_below RM5_21.out hb)
      have RM6_22 := mz (Kd.R_below RM6_21.out hb)
      clear hb
      obtain ⟨Y5, Y5c, eo⟩ := Kd.R_slice hR5
      subst eo
      obtain ⟨Y6, Y6c, eo⟩ := Kd.R_slice hR6
      subst eo
      have HDY := mz (fun k e e' => hR5.1 k e e'.symm : ∀ k, (Value.slice Y5 (opOf s5).length Y5c).ownBlock = some k → ¬ (Value.slice Y6 (opOf s6).length Y6c).ownBlock = some k)
      have RY5 := mz (R_new hR5 HB21.out.size)
      have RY6 := mz (R_new hR6 HB21.out.size)
      clear hR5 hR6
      go_wp2_with fail
      refine (laws_toPartS.calls K4 A1 c1 op (opOf op) _ (Kd.C_below U1.out HB22.out) E1.out HK4.out).mono ?_
      rintro e w23 ⟨vo, rfl, hRo, hb⟩
      have HB23 := mz (below_step HB22.out hb)
      have Z23 := mz (hb).size
      have KC_23 := mz (blk_below KC_22.out hb)
      have KW_23 := mz (blk_below KW_22.out hb)
      have KX_23 := mz (blk_below KX_22.out hb)
      have KG_23 := mz (blk_below KG_22.out hb)
      have RW5_23 := mz (Kd.R_below RW5_22.out hb)
      have RW6_23 := mz (Kd.R_below RW6_22.out hb)
      have RM5_23 := mz (Kd.R_below RM5_22.out hb)
      have RM6_23 := mz (Kd.R_below RM6_22.out hb)
      have RY5_23 := mz (Kd.R_below RY5.out hb)
      have RY6_23 := mz (Kd.R_below RY6.out hb)
      clear hb
      obtain ⟨O3, O3c, eo⟩ := Kd.R_slice hRo
      subst eo
      have RO3 := mz (R_new hRo HB22.out.size)
      clear hRo
      go_wp2_with fail
      refine (impl_EditClient.calls K6 i t v q b Y5 Y5c (opOf s5) Y6 Y6c (opOf s6) d O3 O3c (opOf op) j1 j2 j3 j4 j5 j6 j7 j8 j9 _ (Kd.R_reads' RY5_23.out).2.2 (Kd.R_reads' RY5_23.out).2.1 (Kd.R_reads' RY6_23.out).2.2 (Kd.R_reads' RY6_23.out).2.1 (Kd.R_reads' RO3.out).2.2 (Kd.R_reads' RO3.out).2.1 HK6.out).mono ?_
      rintro e w24 ⟨v5, v6, rfl, hR5, hR6, hb⟩
      have HB24 := mz (below_step HB23.out hb)
      have Z24 := mz (hb).size
      have KC_24 := mz (blk_below KC_23.out hb)
      have KW_24 := mz (blk_below KW_23.out hb)
      have KX_24 := mz (blk_below KX_23.out hb)
      have KG_24 := mz (blk_below KG_23.out hb)
      have RW5_24 := mz (Kd.R_below RW5_23.out hb)
      have RW6_24 := mz (Kd.R_below RW6_23.out hb)
      have RM5_24 := mz (Kd.R_below RM5_23.out hb)
      have RM6_24 := mz (Kd.R_below RM6_23.out hb)
      have RY5_24 := mz (Kd.R_below RY5_23.out hb)
      have RY6_24 := mz (Kd.R_below RY6_23.out hb)
      have RO3_24 := mz (Kd.R_below RO3.out hb)
      clear hb
      obtain ⟨H5, H5c, eo⟩ := Kd.R_slice hR5
      subst eo
      obtain ⟨H6, H6c, eo⟩ := Kd.R_slice hR6
      subst eo
      have HDH := mz (fun k e e' => hR5.1 k e e'.symm : ∀ k, (Value.slice H5 j6.length H5c).ownBlock = some k → ¬ (Value.slice H6 j7.length H6c).ownBlock = some k)
      have RH5 := mz (R_new hR5 HB23.out.size)
      have RH6 := mz (R_new hR6 HB23.out.size)
      clear hR5 hR6
      go_upto_region 32 with ((with_reducible refine gate_dst (N := 15) rfl ?_); refine bx 15 #[.int .i64 0, .string ⟨#[]⟩, .int .i64 0, .int .i64 0, .bool false, .slice none 0 0, .slice none 0 0, .bool false] 45 ?_; intro gH hg wx hbox hb; have HX := mz hg; have Bx := mz hb; have KX := mz hbox; obtain ⟨y0, y1, y2, y3, y4, y5, y6, y7⟩ := cells8 hbox; obtain ⟨z0, z1, z2, z3, z4, z5, z6, z7⟩ := froz8 hbox; clear hg hbox hb)
      have hp := put8 (.int .i64 j1) (.string j2) (.int .i64 j3) (.int .i64 j4) (.bool j5) (.slice H5 j6.length H5c) (.slice H6 j7.length H6c) (.bool j8) Bx.out (Nat.le_of_eq HX.out.symm) KX.out
      have KN := mz hp.1
      have Bz := mz hp.2.1
      clear hp y0 y1 y2 y3 y4 y5 y6 y7 z0 z1 z2 z3 z4 z5 z6 z7 Bx KX
      generalize (((((((wx.setCell ⟨gH, 0, none⟩ (.int .i64 j1)).setCell ⟨gH, 1, none⟩ (.string j2)).setCell ⟨gH, 2, none⟩ (.int .i64 j3)).setCell ⟨gH, 3, none⟩ (.int .i64 j4)).setCell ⟨gH, 4, none⟩ (.bool j5)).setCell ⟨gH, 5, none⟩ (.slice H5 j6.length H5c)).setCell ⟨gH, 6, none⟩ (.slice H6 j7.length H6c)).setCell ⟨gH, 7, none⟩ (.bool j8) = w25 at KN Bz ⊢
      have HB25 := mz (below_step HB24.out Bz.out)
      have Z25 := mz (Bz.out).size
      have KC_25 := mz (blk_below KC_24.out Bz.out)
      have KW_25 := mz (blk_below KW_24.out Bz.out)
      have KX_25 := mz (blk_below KX_24.out Bz.out)
      have KG_25 := mz (blk_below KG_24.out Bz.out)
      have RW5_25 := mz (Kd.R_below RW5_24.out Bz.out)
      have RW6_25 := mz (Kd.R_below RW6_24.out Bz.out)
      have RM5_25 := mz (Kd.R_below RM5_24.out Bz.out)
      have RM6_25 := mz (Kd.R_below RM6_24.out Bz.out)
      have RH5_25 := mz (Kd.R_below RH5.out Bz.out)
      have RH6_25 := mz (Kd.R_below RH6.out Bz.out)
      have KH := mz KN.out
      have HGH := mz HX.out
      have HLH : Aside0 (gH < w25.heap.size) := ⟨blk_lt KN.out⟩
      clear KN Bz HX
      obtain ⟨H0, H1, H2, H3, H4, H5, H6, H7⟩ := cells8 KH.out
      obtain ⟨W0, W1, W2, W3, W4, W5, W6, W7⟩ := cells8 KW_25.out
      go_wp2_with fail
      clear H0 H1 H2 H3 H4 H5 H6 H7
      clear W0 W1 W2 W3 W4 W5 W6 W7
      refine (laws_eqClient.calls j1 j2 j3 j4 j5 H5 H5c j6 H6 H6c j7 j8 j1 j2 j3 j4 j5 W5 W5c j6 W6 W6c j7 j8 true _ (Kd.R_reads' RH5_25.out).2.2 (Kd.R_reads' RH5_25.out).2.1 (Kd.R_reads' RH6_25.out).2.2 (Kd.R_reads' RH6_25.out).2.1 (Kd.R_reads' RW5_25.out).2.2 (Kd.R_reads' RW5_25.out).2.1 (Kd.R_reads' RW6_25.out).2.2 (Kd.R_reads' RW6_25.out).2.1 HE1.out).mono ?_
      rintro e w26 ⟨rfl, hb⟩
      have HB26 := mz (below_step HB25.out hb)
      have Z26 := mz (hb).size
      have KC_26 := mz (blk_below KC_25.out hb)
      have KW_26 := mz (blk_below KW_25.out hb)
      have KX_26 := mz (blk_below KX_25.out hb)
      have KG_26 := mz (blk_below KG_25.out hb)
      have KH_26 := mz (blk_below KH.out hb)
      have RW5_26 := mz (Kd.R_below RW5_25.out hb)
      have RW6_26 := mz (Kd.R_below RW6_25.out hb)
      have RM5_26 := mz (Kd.R_below RM5_25.out hb)
      have RM6_26 := mz (Kd.R_below RM6_25.out hb)
      have RH5_26 := mz (Kd.R_below RH5_25.out hb)
      have RH6_26 := mz (Kd.R_below RH6_25.out hb)
      clear hb
      obtain ⟨G0, G1, G2, G3, G4, G5, G6, G7⟩ := cells8 KG_26.out
      go_wp2_with fail
      clear G0 G1 G2 G3 G4 G5 G6 G7
      refine (heldC_at j1 j2 j3 j4 j5 G5 G5c j6 G6 G6c j7 j8 _ _ _ _ RM5_26.out RM6_26.out K11 m3 HK11.out).mono ?_
      rintro e w27 ⟨rfl, hb⟩
      have HB27 := mz (below_step HB26.out hb)
      have Z27 := mz (hb).size
      have KC_27 := mz (blk_below KC_26.out hb)
      have KW_27 := mz (blk_below KW_26.out hb)
      have KX_27 := mz (blk_below KX_26.out hb)
      have KG_27 := mz (blk_below KG_26.out hb)
      have KH_27 := mz (blk_below KH_26.out hb)
      have RW5_27 := mz (Kd.R_below RW5_26.out hb)
      have RW6_27 := mz (Kd.R_below RW6_26.out hb)
      have RM5_27 := mz (Kd.R_below RM5_26.out hb)
      have RM6_27 := mz (Kd.R_below RM6_26.out hb)
      have RH5_27 := mz (Kd.R_below RH5_26.out hb)
      have RH6_27 := mz (Kd.R_below RH6_26.out hb)
      clear hb
      go_wp2_with fail
      go_ret
      exact ⟨rfl, HB27.out⟩
open Classical in
noncomputable def laws_FnExactEditClient.f (a0_0 : Int) (a0_1 : ByteArray) (a0_2 : Int) (a0_3 : Int) (a0_4 : Bool) (l0_5 : List (S78)) (l0_6 : List (S78)) (a0_7 : Bool) (l1 : List (S78)) : Option (Bool) := if BigC ⟨a0_0, a0_1, a0_2, a0_3, a0_4, l0_5, l0_6, a0_7⟩ ∧ l1.length ≤ maxLen ∧ ∀ p ∈ l1, p.f1.size ≤ maxLen ∧ p.f2.size ≤ maxLen then some true else none
theorem laws_FnExactEditClient.calls (a0_0 : Int) (a0_1 : ByteArray) (a0_2 : Int) (a0_3 : Int) (a0_4 : Bool) (A0_5 : Option Addr) (c0_5 : Nat) (l0_5 : List (S78)) (A0_6 : Option Addr) (c0_6 : Nat) (l0_6 : List (S78)) (a0_7 : Bool) (A1 : Option Addr) (c1 : Nat) (l1 : List (S78)) (r : Bool) (w : World) (hr0_5 : Kd.C k78 w A0_5 l0_5.length l0_5) (hc0_5 : l0_5.length ≤ c0_5) (hr0_6 : Kd.C k78 w A0_6 l0_6.length l0_6) (hc0_6 : l0_6.length ≤ c0_6) (hr1 : Kd.C k78 w A1 l1.length l1) (hc1 : l1.length ≤ c1) (h : laws_FnExactEditClient.f a0_0 a0_1 a0_2 a0_3 a0_4 l0_5 l0_6 a0_7 l1 = some r) :
    Calls Try.prog 4 #[.agg #[.int .i64 a0_0, .string a0_1, .int .i64 a0_2, .int .i64 a0_3, .bool a0_4, .slice A0_5 l0_5.length c0_5, .slice A0_6 l0_6.length c0_6, .bool a0_7], .slice A1 l1.length c1] w fun e w' => e = .returned (.bool r) ∧ Below w.heap.size w w' := by
  unfold laws_FnExactEditClient.f at h
  split at h
  · rename_i hs
    obtain rfl := Option.some.inj h
    exact ec_walk a0_0 a0_1 a0_2 a0_3 a0_4 A0_5 c0_5 l0_5 A0_6 c0_6 l0_6 a0_7 A1 c1 l1 w hr0_5 hc0_5 hr0_6 hc0_6 hr1 hc1 hs.1 hs.2.1 hs.2.2
  · exact absurd h (by simp)
def Opens {α : Type} (P : Program) (t : TypeId) (d : Kd α) (B : α → Prop) : Prop :=
  ∀ (H : Type) (enc : TypeId × Value → H) (W : World) (fuel : Nat) (cs : List Value) (x : DataW H × List MemPlace),
    DataW.trod enc P W 0 (fun _ => true) true fuel t cs = some x → ∃ y : α, d.K W y cs ∧ B y

theorem opens_int {P : Program} {t : TypeId} {k : IntKind} (ht : P.underlying t = some (.int k)) : Opens P t (Kd.int k) (fun n => (Lit.int k n).wf = true) := by
  intro H enc W fuel cs x h
  obtain ⟨n, rfl, _, hw⟩ := DataW.trod_int ht h
  exact ⟨n, rfl, hw⟩
theorem opens_bool {P : Program} {t : TypeId} (ht : P.underlying t = some .bool) : Opens P t Kd.bool (fun _ => True) := by
  intro H enc W fuel cs x h
  obtain ⟨b, rfl, _⟩ := DataW.trod_bool ht h
  exact ⟨b, rfl, trivial⟩
theorem opens_string {P : Program} {t : TypeId} (ht : P.underlying t = some .string) : Opens P t Kd.string (fun s => s.size ≤ maxLen) := by
  intro H enc W fuel cs x h
  obtain ⟨s, rfl, _, hs⟩ := DataW.trod_string ht h
  exact ⟨s, rfl, hs⟩

theorem list_of {α : Type} (Q : Nat → α → Prop) (n : Nat) (h : ∀ i, i < n → ∃ y, Q i y) : ∃ ys : List α, ys.length = n ∧ ∀ i y, ys[i]? = some y → Q i y := by
  induction n with
  | zero => exact ⟨[], rfl, fun i y hy => by simp at hy⟩
  | succ n ih =>
    obtain ⟨ys, hl, hq⟩ := ih (fun i hi => h i (by omega))
    obtain ⟨y, hy⟩ := h n (by omega)
    refine ⟨ys ++ [y], by simp [hl], fun i z hz => ?_⟩
    rcases Nat.lt_or_ge i ys.length with hi | hi
    · rw [List.getElem?_append_left hi] at hz
      exact hq i z hz
    · have hi' : i = n := by
        have := (List.getElem?_eq_some_iff.1 hz).1
        simp at this
        omega
      subst hi'
      rw [List.getElem?_append_right hi, hl, Nat.sub_self] at hz
      have : y = z := by simpa using hz
      subst this
      exact hy

theorem opens_slice {α : Type} {P : Program} {t e : TypeId} {d : Kd α} {B : α → Prop} (ht : P.underlying t = some (.slice e)) (hc : P.cellsOf e = d.sz) (hd : Opens P e d B) :
    Opens P t (Kd.slice e d) (fun l => l.length ≤ maxLen ∧ ∀ x ∈ l, B x) := by
  intro H enc W fuel cs x h
  rcases DataW.trod_slice ht h with ⟨rfl, _⟩ | ⟨a, len, cap, elems, rest, n, _, rfl, _, _, hl, hm, hlen, hel, _, _⟩
  · exact ⟨[], ⟨none, 0, rfl, Nat.le_refl _, rfl, by simp, fun h0 => absurd h0 (by simp)⟩, by simp, by simp⟩
  · have each : ∀ i, i < len → ∃ y : α, (∃ c, W.cells? 0 (a.add (i * P.cellsOf e)) (P.cellsOf e) = some c ∧ d.K W y c) ∧ B y := by
      intro i hi
      have h1 := hel i hi
      rw [List.getElem?_eq_getElem (by omega), Option.bind_eq_some_iff] at h1
      obtain ⟨c, h2, h3⟩ := h1
      obtain ⟨y, h4, h5⟩ := hd H enc W n c _ h3
      exact ⟨y, ⟨c, h2, h4⟩, h5⟩
    obtain ⟨ys, hys, hq⟩ := list_of _ len each
    refine ⟨ys, ⟨some a, cap, by rw [hys], by rw [hys]; exact hl, rfl, ?_, fun _ => ⟨a, rfl, fun j p hj => ?_⟩⟩, by rw [hys]; exact Nat.le_trans hl hm, fun z hz => ?_⟩
    · rw [hys]
      have := Nat.le_trans hl hm
      simp only [maxLen] at this
      exact this
    · obtain ⟨⟨c, h2, h3⟩, _⟩ := hq j p hj
      refine ⟨c, d.K_len h3, h3, fun i u hu => ?_⟩
      have hi : i < P.cellsOf e := by rw [hc, ← d.K_len h3]; exact (List.getElem?_eq_some_iff.1 hu).1
      have := (World.cells?_some h2).2.2 i hi
      rw [Addr.add_add, hc] at this
      rw [this, hu]
    · obtain ⟨j, hj, rfl⟩ := List.getElem_of_mem hz
      exact (hq j _ (List.getElem?_eq_getElem hj)).2

theorem split_at (cs : List Value) (a n b : Nat) (h : b = a + n) : cs.drop a = (cs.drop a).take n ++ cs.drop b := by
  subst h
  rw [← List.drop_drop, List.take_append_drop]
section
attribute [local go_sem] max2_int min2_int max_two min_two max_three min_three max_four min_four
def B78 (x : S78) : Prop := (Lit.int .i64 x.f0).wf = true ∧ x.f1.size ≤ maxLen ∧ x.f2.size ≤ maxLen
set_option maxRecDepth 10000 in
theorem opens_S78 : Opens Try.prog 78 k78 B78 := by
  intro H enc W fuel cs x h
  obtain ⟨xs, n, rfl, rfl, hl, hx, hf⟩ := DataW.trod_struct Try.underlying78 h
  have hl' : cs.length = 3 := hl.trans (by kernel_rfl)
  have hx' : xs.length = 3 := hx
  have h0 := hf 0 _ rfl
  rw [List.getElem?_eq_getElem (show 0 < xs.length by omega)] at h0
  obtain ⟨v0, K0, B0_⟩ := (opens_int Try.underlying3) H enc W n _ _ h0
  replace K0 : (Kd.int .i64).K W v0 ((cs.drop 0).take 1) := K0
  have h1 := hf 1 _ rfl
  rw [List.getElem?_eq_getElem (show 1 < xs.length by omega)] at h1
  obtain ⟨v1, K1, B1_⟩ := (opens_string Try.underlying9) H enc W n _ _ h1
  replace K1 : Kd.string.K W v1 ((cs.drop 1).take 1) := K1
  have h2 := hf 2 _ rfl
  rw [List.getElem?_eq_getElem (show 2 < xs.length by omega)] at h2
  obtain ⟨v2, K2, B2_⟩ := (opens_string Try.underlying9) H enc W n _ _ h2
  replace K2 : Kd.string.K W v2 ((cs.drop 2).take 1) := K2
  rw [List.take_of_length_le (by rw [List.length_drop, hl']; decide)] at K2
  have hK : k78.K W ⟨v0, v1, v2⟩ (cs.drop 0) := ⟨_, _, split_at cs 0 1 1 rfl, K0, ⟨_, _, split_at cs 1 1 2 rfl, K1, K2⟩⟩
  rw [List.drop_zero] at hK
  exact ⟨_, hK, ⟨B0_, B1_, B2_⟩⟩
def B42 (x : S42) : Prop := (Lit.int .i64 x.f0).wf = true ∧ x.f1.size ≤ maxLen ∧ (Lit.int .i64 x.f2).wf = true ∧ (Lit.int .i64 x.f3).wf = true ∧ True ∧ (x.f5.length ≤ maxLen ∧ ∀ y ∈ x.f5, B78 y) ∧ (x.f6.length ≤ maxLen ∧ ∀ y ∈ x.f6, B78 y) ∧ True
set_option maxRecDepth 10000 in
theorem opens_S42 : Opens Try.prog 42 k42 B42 := by
  intro H enc W fuel cs x h
  obtain ⟨xs, n, rfl, rfl, hl, hx, hf⟩ := DataW.trod_struct Try.underlying42 h
  have hl' : cs.length = 8 := hl.trans (by kernel_rfl)
  have hx' : xs.length = 8 := hx
  have h0 := hf 0 _ rfl
  rw [List.getElem?_eq_getElem (show 0 < xs.length by omega)] at h0
  obtain ⟨v0, K0, B0_⟩ := (opens_int Try.underlying3) H enc W n _ _ h0
  replace K0 : (Kd.int .i64).K W v0 ((cs.drop 0).take 1) := K0
  have h1 := hf 1 _ rfl
  rw [List.getElem?_eq_getElem (show 1 < xs.length by omega)] at h1
  obtain ⟨v1, K1, B1_⟩ := (opens_string Try.underlying9) H enc W n _ _ h1
  replace K1 : Kd.string.K W v1 ((cs.drop 1).take 1) := K1
  have h2 := hf 2 _ rfl
  rw [List.getElem?_eq_getElem (show 2 < xs.length by omega)] at h2
  obtain ⟨v2, K2, B2_⟩ := (opens_int Try.underlying3) H enc W n _ _ h2
  replace K2 : (Kd.int .i64).K W v2 ((cs.drop 2).take 1) := K2
  have h3 := hf 3 _ rfl
  rw [List.getElem?_eq_getElem (show 3 < xs.length by omega)] at h3
  obtain ⟨v3, K3, B3_⟩ := (opens_int Try.underlying3) H enc W n _ _ h3
  replace K3 : (Kd.int .i64).K W v3 ((cs.drop 3).take 1) := K3
  have h4 := hf 4 _ rfl
  rw [List.getElem?_eq_getElem (show 4 < xs.length by omega)] at h4
  obtain ⟨v4, K4, B4_⟩ := (opens_bool Try.underlying4) H enc W n _ _ h4
  replace K4 : Kd.bool.K W v4 ((cs.drop 4).take 1) := K4
  have h5 := hf 5 _ rfl
  rw [List.getElem?_eq_getElem (show 5 < xs.length by omega)] at h5
  obtain ⟨v5, K5, B5_⟩ := (opens_slice Try.underlying25 (by kernel_rfl) opens_S78) H enc W n _ _ h5
  replace K5 : (Kd.slice 78 k78).K W v5 ((cs.drop 5).take 1) := K5
  have h6 := hf 6 _ rfl
  rw [List.getElem?_eq_getElem (show 6 < xs.length by omega)] at h6
  obtain ⟨v6, K6, B6_⟩ := (opens_slice Try.underlying25 (by kernel_rfl) opens_S78) H enc W n _ _ h6
  replace K6 : (Kd.slice 78 k78).K W v6 ((cs.drop 6).take 1) := K6
  have h7 := hf 7 _ rfl
  rw [List.getElem?_eq_getElem (show 7 < xs.length by omega)] at h7
  obtain ⟨v7, K7, B7_⟩ := (opens_bool Try.underlying4) H enc W n _ _ h7
  replace K7 : Kd.bool.K W v7 ((cs.drop 7).take 1) := K7
  rw [List.take_of_length_le (by rw [List.length_drop, hl']; decide)] at K7
  have hK : k42.K W ⟨v0, v1, v2, v3, v4, v5, v6, v7⟩ (cs.drop 0) := ⟨_, _, split_at cs 0 1 1 rfl, K0, ⟨_, _, split_at cs 1 1 2 rfl, K1, ⟨_, _, split_at cs 2 1 3 rfl, K2, ⟨_, _, split_at cs 3 1 4 rfl, K3, ⟨_, _, split_at cs 4 1 5 rfl, K4, ⟨_, _, split_at cs 5 1 6 rfl, K5, ⟨_, _, split_at cs 6 1 7 rfl, K6, K7⟩⟩⟩⟩⟩⟩⟩
  rw [List.drop_zero] at hK
  exact ⟨_, hK, ⟨B0_, B1_, B2_, B3_, B4_, B5_, B6_, B7_⟩⟩
end
section
attribute [local go_sem] max2_int min2_int max_two min_two max_three min_three max_four min_four
def PureFnExactEditClient : Prop := ∀ (x0 : S42), ∀ (l1 : List (S78)), B42 x0 → (l1.length ≤ maxLen ∧ ∀ y ∈ l1, B78 y) → laws_FnExactEditClient.f x0.f0 x0.f1 x0.f2 x0.f3 x0.f4 x0.f5 x0.f6 x0.f7 l1 = some true
end
end Go.Proofs.Ytgccoekganghhaa.X
namespace Go.Proofs.Ytgccoekganghhaa.Pure
open Go.RowKit Go.Proofs.Ytgccoekganghhaa.X Go.Proofs.YtgccoekganghhaaW.PrintWords Go.Proofs.YtgccoekganghhaaW.PrintLast
theorem FnExactEditClient : PureFnExactEditClient := by
  rintro x l ⟨_, h1, _, _, _, ⟨h5, h5'⟩, ⟨h6, h6'⟩, _⟩ ⟨hl, hl'⟩
  unfold laws_FnExactEditClient.f
  rw [if_pos ⟨⟨h1, ⟨h5, fun p hp => (h5' p hp).2⟩, h6, fun p hp => (h6' p hp).2⟩, hl, fun p hp => (hl' p hp).2⟩]
end Go.Proofs.Ytgccoekganghhaa.Pure
namespace Go.Proofs.Ytgccoekganghhaa.fnExactEditClient
open Go.ChangeShapes Go.WideShapes Go.ChangeAt Go.RowKit
open Go.ChangeMaps (open_string shut_string)
open Go.Proofs.YtgccoekganghhaaW.PrintWords Go.Proofs.Ytgccoekganghhaa.X
set_option linter.unusedVariables false
theorem own : ownKnob Try.prog.godebug = none := by kernel_rfl
theorem laidOut : laidOutB Try.prog = true := by kernel_rfl
set_option maxRecDepth 100000 in
theorem lifted (os : Os) (started : os.Started) (H : Type) (enc : TypeId × Value → H) :
    ReturnsInHanded {} Try.checked os 4 .any (Rows.fnExactEditClientSpec.pre6 enc Try.prog Try.f4 Rows.fnExactEditClientRow.domain false) (Rows.fnExactEditClientSpec.post enc Try.prog Try.f4 false true false false) := by
  refine returnsInHanded_of_change_sized (C := Try.checked) own started (by kernel_rfl) Try.func4
    (ChangeSpec.witness6 (enc := enc) (C := Try.checked) false ⟨#[], #[.agg #[.int .i64 0, .string ByteArray.empty, .int .i64 0, .int .i64 0, .bool false, .slice none 0 0, .slice none 0 0, .bool false], .slice none 0 0], []⟩ 8 (by kernel_rfl) (by kernel_rfl) (by kernel_rfl) (by kernel_rfl)) ?_
  intro W base args ds gs before hval0 hW hcnd hsz0 _
  have hval : ∀ (j : Nat) t v, Try.f4.params[j]? = some t → args[j]? = some v → Value.okWide Try.prog W .any base t v := hval0
  have hW' := hW
  obtain ⟨p, q, hA0, hV, rfl, hfz, hnd⟩ := hW
  have hA : DataW.TrodAll enc Try.prog W 0 (fun _ => true) true Try.f4.params.toList args.toList ds p := hA0
  rw [Try.params4] at hA hval
  obtain ⟨v0, vs0, d0, ds0, p0, q0, hargs, rfl, rfl, h0, r0⟩ := trodAll_cons hA
  obtain ⟨v1, vs1, d1, ds1, p1, q1, rfl, rfl, rfl, h1, r1⟩ := trodAll_cons r0
  obtain ⟨rfl, rfl, rfl⟩ := trodAll_nil r1
  obtain rfl : args = #[v0, v1] := by cases args; simp_all
  obtain ⟨rfl, rfl⟩ := trodVars_none hV
  have k0 := h0
  have lt0 : ∀ x ∈ p0, x.block < W.heap.size := by obtain ⟨m, hm⟩ := k0; exact DataW.trod_lt m _ _ _ hm
  obtain ⟨fuel0, hf0⟩ := h0
  obtain ⟨cs0, rfl, _⟩ := okWide_struct Try.underlying42 (hval 0 42 v0 rfl rfl)
  obtain ⟨x0, K0, b0⟩ := opens_S42 H enc W _ _ _ hf0
  obtain ⟨A0_5, c0_5, A0_6, c0_6, he0, hc0_5, hr0_5, hc0_6, hr0_6⟩ := k42_open K0
  obtain rfl : cs0 = #[.int .i64 x0.f0, .string x0.f1, .int .i64 x0.f2, .int .i64 x0.f3, .bool x0.f4, .slice A0_5 x0.f5.length c0_5, .slice A0_6 x0.f6.length c0_6, .bool x0.f7] := by cases cs0; simp_all [Value.cells]
  have k1 := h1
  have lt1 : ∀ x ∈ p1, x.block < W.heap.size := by obtain ⟨m, hm⟩ := k1; exact DataW.trod_lt m _ _ _ hm
  obtain ⟨fuel1, hf1⟩ := h1
  obtain ⟨A1_, len1, cap1, rfl⟩ := okWide_slice Try.underlying25 (hval 1 25 v1 rfl rfl)
  obtain ⟨l1, ⟨A1, c1, he1, hc1, hr1⟩, b1⟩ := (opens_slice Try.underlying25 (by kernel_rfl) opens_S78) H enc W _ _ _ hf1
  simp only [Value.cells, List.cons.injEq, Value.slice.injEq, and_true] at he1
  obtain ⟨rfl, rfl, rfl⟩ := he1
  clear hA0 hval0 hsz0
  have hP : PureFnExactEditClient := Pure.FnExactEditClient
  have hk := hP x0 l1 b0 b1
  refine (laws_FnExactEditClient.calls x0.f0 x0.f1 x0.f2 x0.f3 x0.f4 _ _ x0.f5 _ _ x0.f6 x0.f7 _ _ l1 true W hr0_5 hc0_5 hr0_6 hc0_6 hr1 hc1 hk).mono fun e W' ⟨he, bel0⟩ => ?_
  have bel : Below W.heap.size W W' := bel0
  subst he
  exact ⟨_, rfl, _, _, _, [], _, [], hW', trodAll_mk1 (shut_bool Try.underlying4 _), (trodAll_cons_mk (Below.trod laidOut (by kernel_rfl) (of_decide_eq_true (by kernel_rfl)) k0 bel lt0) (trodAll_cons_mk (Below.trod laidOut (by kernel_rfl) (of_decide_eq_true (by kernel_rfl)) k1 bel lt1) trodAll_mk0)), rfl, bel.frame _, fun h => by cases h⟩
theorem over : Rows.fnExactEditClientRow.holds Try.pinned (OpenSpec.ofChange Rows.fnExactEditClientSpec) :=
  OpenClaim.holds_of_wide 4 Try.f4 rfl rfl rfl rfl rfl rfl rfl ⟨rfl, rfl, rfl, rfl, rfl⟩ rfl rfl rfl rfl rfl (by kernel_rfl) Try.func4 (by kernel_rfl)
    (of_decide_eq_true (by kernel_rfl)) (by unfold Func.isWrapper; first | (rw [if_pos (by decide +kernel)]; kernel_rfl) | (rw [if_neg (by decide +kernel)]; exact ⟨rfl, rfl⟩))
    (fun os started H enc _ => lifted os started H enc)
theorem proved : Rows.FnExactEditClientSaid := over
#print axioms proved
end Go.Proofs.Ytgccoekganghhaa.fnExactEditClient
namespace Go.Proofs.Ytgccoekganghhaa
theorem fnExactEditClient_holds : Rows.FnExactEditClientSaid := fnExactEditClient.proved
end Go.Proofs.Ytgccoekganghhaa
