/- Texts that several proofs of this seat stand on, part 2. -/
import Derived.Test.YtaofjlelclbioaaC1
import Derived.Deep.RegionHeld3
import Derived.Deep.DrawnRows
import Derived.Deep.RegionWith
import Derived.IntWalk
set_option linter.unusedVariables false
set_option linter.unusedSimpArgs false
namespace Go.Proofs.Ytaofjlelclbioaa.X
open Go.RowKit Go.Proofs.YtaofjlelclbioaaW.PrintWords Go.Proofs.YtaofjlelclbioaaW.PrintLast Go.Proofs.YtaofjlelclbioaaW.PrintMore

def FS (wr : World) (gs ga : Nat) (A : Option Addr) (n c : Nat) (y : Atom) (W : World) : Prop := W.cell? ⟨gs, 0, none⟩ = some (.slice A n c) ∧ W.cell? ⟨ga, 0, none⟩ = some (.int .i64 y.f0) ∧ W.cell? ⟨ga, 1, none⟩ = some (.int .i64 y.f1) ∧ W.cell? ⟨ga, 2, none⟩ = some (.int .i64 y.f2) ∧ W.cell? ⟨ga, 3, none⟩ = some (.int .i64 y.f3) ∧ W.cell? ⟨ga, 4, none⟩ = some (.string y.f4) ∧ W.cell? ⟨ga, 5, none⟩ = some (.bool y.f5) ∧ Aside0 (Below wr.heap.size wr W)
theorem FS.bel {wr W : World} {gs ga n c : Nat} {A : Option Addr} {y : Atom} (h : FS wr gs ga A n c y W) : Below wr.heap.size wr W := h.2.2.2.2.2.2.2.out
theorem FS.drew {wr W : World} {gs ga n c : Nat} {A : Option Addr} {y : Atom} (h : FS wr gs ga A n c y W) : FS wr gs ga A n c y W.drew :=
  ⟨h.1, h.2.1, h.2.2.1, h.2.2.2.1, h.2.2.2.2.1, h.2.2.2.2.2.1, h.2.2.2.2.2.2.1, ⟨below_drew1 h.bel⟩⟩
theorem cell_step {W w1 : World} {p : Addr} {v : Value} (h : W.cell? p = some v) (hb : Below W.heap.size W w1) : w1.cell? p = some v := (hb.cell (World.block_lt_of_cell? W _ h)).trans h
theorem FS.step {wr W w1 : World} {gs ga n c : Nat} {A : Option Addr} {y : Atom} (h : FS wr gs ga A n c y W) (hb : Below W.heap.size W w1) : FS wr gs ga A n c y w1 :=
  ⟨cell_step h.1 hb, cell_step h.2.1 hb, cell_step h.2.2.1 hb, cell_step h.2.2.2.1 hb, cell_step h.2.2.2.2.1 hb, cell_step h.2.2.2.2.2.1 hb, cell_step h.2.2.2.2.2.2.1 hb, ⟨below_step h.bel hb⟩⟩
theorem FS.set {wr w3 : World} {gs ga n c : Nat} {A : Option Addr} {y : Atom} (hb : Below wr.heap.size wr w3) (hg : wr.heap.size ≤ ga)
    (hbe : w3.heap[ga]? = some (.cells #[.int .i64 0, .int .i64 0, .int .i64 0, .int .i64 0, .string ⟨#[]⟩, .bool false] 61 (0, 0))) (hbk : w3.heap[gs]? = some (.cells #[.slice A n c] 29 (0, 0))) (hne : gs ≠ ga) :
    FS wr gs ga A n c y ((((((w3.setCell ⟨ga, 0, none⟩ (.int .i64 y.f0)).setCell ⟨ga, 1, none⟩ (.int .i64 y.f1)).setCell ⟨ga, 2, none⟩ (.int .i64 y.f2)).setCell ⟨ga, 3, none⟩ (.int .i64 y.f3)).setCell ⟨ga, 4, none⟩ (.string y.f4)).setCell ⟨ga, 5, none⟩ (.bool y.f5)) := by
  have b0 := blk_put (cs' := #[.int .i64 y.f0, .int .i64 0, .int .i64 0, .int .i64 0, .string ⟨#[]⟩, .bool false]) hbe 0 (.int .i64 y.f0) rfl
  have b1 := blk_put (cs' := #[.int .i64 y.f0, .int .i64 y.f1, .int .i64 0, .int .i64 0, .string ⟨#[]⟩, .bool false]) b0 1 (.int .i64 y.f1) rfl
  have b2 := blk_put (cs' := #[.int .i64 y.f0, .int .i64 y.f1, .int .i64 y.f2, .int .i64 0, .string ⟨#[]⟩, .bool false]) b1 2 (.int .i64 y.f2) rfl
  have b3 := blk_put (cs' := #[.int .i64 y.f0, .int .i64 y.f1, .int .i64 y.f2, .int .i64 y.f3, .string ⟨#[]⟩, .bool false]) b2 3 (.int .i64 y.f3) rfl
  have b4 := blk_put (cs' := #[.int .i64 y.f0, .int .i64 y.f1, .int .i64 y.f2, .int .i64 y.f3, .string y.f4, .bool false]) b3 4 (.string y.f4) rfl
  have b5 := blk_put (cs' := #[.int .i64 y.f0, .int .i64 y.f1, .int .i64 y.f2, .int .i64 y.f3, .string y.f4, .bool y.f5]) b4 5 (.bool y.f5) rfl
  have k0 := blk_far (p := ⟨ga, 0, none⟩) hbk hne (.int .i64 y.f0)
  have k1 := blk_far (p := ⟨ga, 1, none⟩) k0 hne (.int .i64 y.f1)
  have k2 := blk_far (p := ⟨ga, 2, none⟩) k1 hne (.int .i64 y.f2)
  have k3 := blk_far (p := ⟨ga, 3, none⟩) k2 hne (.int .i64 y.f3)
  have k4 := blk_far (p := ⟨ga, 4, none⟩) k3 hne (.string y.f4)
  have k5 := blk_far (p := ⟨ga, 5, none⟩) k4 hne (.bool y.f5)
  exact ⟨(blk_cell k5 0).trans rfl, (blk_cell b5 0).trans rfl, (blk_cell b5 1).trans rfl, (blk_cell b5 2).trans rfl, (blk_cell b5 3).trans rfl, (blk_cell b5 4).trans rfl, (blk_cell b5 5).trans rfl, ⟨(below_set (below_set (below_set (below_set (below_set (below_set hb hg) hg) hg) hg) hg) hg)⟩⟩
def PV (p : Addr) (x : Atom) (W : World) : Prop := W.cell? p = some (.int .i64 x.f0) ∧ W.cell? ⟨p.block, p.off + 1, none⟩ = some (.int .i64 x.f1) ∧ W.cell? ⟨p.block, p.off + 2, none⟩ = some (.int .i64 x.f2) ∧ W.cell? ⟨p.block, p.off + 3, none⟩ = some (.int .i64 x.f3) ∧ W.cell? ⟨p.block, p.off + 4, none⟩ = some (.string x.f4) ∧ W.cell? ⟨p.block, p.off + 5, none⟩ = some (.bool x.f5)
theorem PV.below {p : Addr} {x : Atom} {wr W : World} (h : PV p x wr) (hb : Below wr.heap.size wr W) : PV p x W :=
  ⟨cell_step h.1 hb, cell_step h.2.1 hb, cell_step h.2.2.1 hb, cell_step h.2.2.2.1 hb, cell_step h.2.2.2.2.1 hb, cell_step h.2.2.2.2.2 hb⟩
theorem MapIs.ne {W : World} {bm n g : Nat} {p : List Atom} {cs : Array Value} {t : TypeId} {r : Nat × Nat} (h : MapIs W bm n p) (hb : W.heap[g]? = some (.cells cs t r)) : g ≠ bm := by
  rintro rfl
  obtain ⟨D, ⟨es, clock, h1, _⟩, _⟩ := h
  rw [h1] at hb
  cases hb
theorem MapIs.look {W : World} {bm n : Nat} {p : List Atom} (h : MapIs W bm n p) {t m : Int} (ht : (Lit.int .i64 t).wf = true) (hm : (Lit.int .i64 m).wf = true) :
    (Instr.lookup 69 (.map (some bm)) (.agg #[.int .i64 t, .int .i64 m]) false).run Try.prog W = .ok (.bool (thereB p t m)) W := by
  obtain ⟨D, h1, h2⟩ := h
  obtain ⟨kl, hk⟩ := key_id ht hm
  obtain ⟨v, ps, hrun, hv⟩ := h1.lookup lawId Try.underlying69 (zeroBool W) (plainElem_bool Try.underlying4 false) hk
  obtain ⟨c, rfl, hc⟩ := plainElem_bool_inv Try.underlying4 hv
  simp only [Prod.mk.injEq] at hc
  rw [hrun]
  have := h2.2 t m kl hk
  rw [hc.1] at this
  rw [Lit.bool.inj (DataW.lit.inj this)]
theorem gate_insert {P : Program} {ops : Array Oper} {Q : Exit → Act → World → Prop} {rest : List Oper} {a : Act} {w : World} {d : Option Tmp} {t ty : TypeId} {m x v : Operand} {pos : String} {af : Array Edge} {g : Option (Nat × Bool)}
    (h : wpList P ops Q ({ dst := d, op := Op.insert t m x v, type := ty, pos := pos, after := af, guard := g } :: rest) a w) : wpList P ops Q ({ dst := d, op := Op.insert t m x v, type := ty, pos := pos, after := af, guard := g } :: rest) a w := h
theorem fromB_step (l : List Atom) (kk : Nat) (h : kk < l.length) : fromB (atomI l) (l.drop kk) kk = ((plainA l[kk] && stepB l kk l[kk] && decide (l[kk].f2 < l[kk].f0) && thereB (l.take kk) l[kk].f2 l[kk].f3) && fromB (atomI l) (l.drop (kk + 1)) (kk + 1)) := by
  rw [List.drop_eq_getElem_cons h]; rfl
theorem goodI_short {l : List Atom} (h : l.length ≤ 80) : goodI l = fromB (atomI l) l 0 := by simp [goodI, h]
theorem goodI_long {l : List Atom} (h : ¬ l.length ≤ 80) : goodI l = false := by simp [goodI, h]
theorem id_val (y : Atom) : impl_Atom_id.f y.f0 y.f1 y.f2 y.f3 y.f4 y.f5 = some (y.f0, y.f1) := rfl
theorem behind_val (y : Atom) : impl_Atom_behind.f y.f0 y.f1 y.f2 y.f3 y.f4 y.f5 = some (y.f2, y.f3) := rfl
theorem before_val (t a t' a' : Int) : impl_id_before.f t a t' a' = some (lessB t a t' a') := by
  unfold impl_id_before.f lessB
  by_cases h : t < t'
  · simp [h]
  · by_cases h2 : t = t'
    · simp [h2]
    · simp [h, h2]

set_option maxHeartbeats 32000000 in
set_option maxRecDepth 100000 in
theorem goodSeq_walk (A : Option Addr) (c : Nat) (l : List Atom) (w : World) (hr : Kd.C k61 w A l.length l) (hc : l.length ≤ c) (hs : sizedA l = true) :
    Calls Try.prog 15 #[.agg #[.slice A l.length c]] w fun e w' => e = .returned (.bool (goodI l)) ∧ Below w.heap.size w w' := by
  have hlen : l.length ≤ 9223372036854775807 := hr.2.1
  have HR := Aside0.mk hr
  have HS := Aside0.mk hs
  have HL := Aside0.mk hlen
  clear hr hs hlen
  by_cases hl80 : l.length ≤ 80
  · have hl80z : ¬ (80 : Int) < (l.length : Int) := by omega
    rw [goodI_short hl80]
    have hmm := @run_makeMap Try.prog
    obtain ⟨kl0, hk0⟩ := key_id (t := 0) (m := 0) (by decide) (by decide)
    have HK0 := Aside0.mk hk0
    clear hk0
    go_enter Try.func15, Try.ntmps15
    go_wp2_with (first | ((with_reducible refine gate_dst (N := 1) rfl ?_); refine box_event ?hg (N := 1) ?hd (cs := #[.slice A l.length c]) (t := 29) ?hr ?_; (case hd => rfl); (case hg => rfl); (case hr => first | (go_simp; done) | (go_simp; rfl)); intro gs hg w3 hbox hb; have HB : Aside0 (Below w.heap.size w w3) := ⟨hb⟩; have x0 : w3.cell? ⟨gs, 0, none⟩ = some (.slice A l.length c) := (blk_cell hbox 0).trans rfl; have BK := Aside0.mk hbox; clear hb hbox hg) | ((with_reducible refine gate_insert ?_); refine wpList_insert_own _ rfl _ _ _ 69 rfl 68 4 lawId Try.underlying69 _ _ 0 (DataW.map [] : DataW Unit) rfl (World.ownsMap_made _ _ _ _) (by unfold maxLen; omega) _ _ _ rfl rfl HK0.out _ [] (plainElem_bool Try.underlying4 true) ?_; intro w4 hown4 hgrow4; have hne : Aside0 (gs ≠ w3.heap.size) := ⟨Nat.ne_of_lt (blk_lt BK.out)⟩; have BK4 := Aside0.mk (blk_grown (blk_alloc BK.out (.map #[] 0)) hgrow4 (fun e => hne.out (Option.some.inj e))); have x4 : w4.cell? ⟨gs, 0, none⟩ = some (.slice A l.length c) := (blk_cell BK4.out 0).trans rfl; have MI4 := Aside0.mk (MapIs.first HK0.out hown4); have HB4 : Aside0 (Below w.heap.size w w4) := ⟨(HB.out.alloc HB.out.size _).grown hgrow4 (by have := HB.out.size; simp; omega) (by intro k hk; have := HB.out.size; cases hk; omega)⟩; clear hown4 hgrow4 hne))
    have hbm0 : w.heap.size ≤ w3.heap.size := HB.out.size
    clear x0 BK HB hmm HK0
    generalize w3.heap.size = bm at hbm0 MI4 ⊢
    have BM := Aside0.mk hbm0
    clear hbm0
    go_loopg [16] l.length (fun gg s16 wr => ∃ kk : Nat, kk ≤ l.length ∧ l.length - kk ≤ gg ∧ s16 = .int .i64 kk ∧ Aside0 (Below w.heap.size w wr) ∧ Aside0 (wr.heap[gs]? = some (.cells #[.slice A l.length c] 29 (0, 0))) ∧ Aside0 (MapIs wr bm (kk + 1) (l.take kk)) ∧ Aside0 (fromB (atomI l) l 0 = fromB (atomI l) (l.drop kk) kk))
    case atStart => exact ⟨0, Nat.zero_le _, by omega, rfl, ⟨HB4.out⟩, ⟨BK4.out⟩, ⟨MI4.out⟩, ⟨by rw [List.drop_zero]⟩⟩
    case round =>
      clear x4 HB4 BK4 MI4
      obtain ⟨kk, hkk, hg, rfl, BW, BK, MI, OK⟩ := hrel
      by_cases hlt : kk < l.length
      · have hltz : (kk : Int) < (l.length : Int) := by omega
        obtain ⟨ad, e1, hx0, hx1, hx2, hx3, hx4, hx5⟩ := at_T61 (Kd.C_below HR.out BW.out) (kk : Int) (by omega) hltz
        cases e1
        rw [rd_atom l kk hlt] at hx0 hx1 hx2 hx3 hx4 hx5
        rw [Int.toNat_natCast] at hx0 hx1 hx2 hx3 hx4 hx5
        have hsz := sizedA_of HS.out l[kk] (List.getElem_mem hlt)
        have OK2 := OK.out
        rw [fromB_step l kk hlt] at OK2
        have TK : Aside0 (l.take (kk + 1) = l.take kk ++ [l[kk]]) := ⟨List.take_succ_eq_append_getElem hlt⟩
        clear OK
        generalize l[kk] = y at hx0 hx1 hx2 hx3 hx4 hx5 hsz OK2 TK
        obtain ⟨K1, hK1⟩ := Ev.rounds (isByte_ev y.f4 hsz.2.2.2.2)
        have YW := Aside0.mk hsz
        have HK1 := Aside0.mk hK1
        clear hsz hK1
        by_cases p0 : y.f0 < 1
        · have HF : Aside0 (fromB (atomI l) l 0 = false) := ⟨by rw [OK2]; have h_ : plainA y = false := (by rw [Bool.eq_false_iff]; intro h; have := plainA_of h; omega); simp [h_]⟩
          clear OK2 HK1
          go_wp2_with ((with_reducible refine gate_dst (N := 5) rfl ?_); refine box_event ?hg (N := 5) ?hd (cs := #[.int .i64 0, .int .i64 0, .int .i64 0, .int .i64 0, .string ⟨#[]⟩, .bool false]) (t := 61) ?hr ?_; (case hd => rfl); (case hg => rfl); (case hr => first | (go_simp; done) | (go_simp; rfl)); intro ga hg2 w3 hbox2 hb3; have HBB : Aside0 (Below wr.heap.size wr w3) := ⟨hb3⟩; have BK3 := Aside0.mk (blk_below BK.out hb3); have BE3 := Aside0.mk hbox2; have NE : Aside0 (gs ≠ ga) := ⟨by rw [hg2]; exact Nat.ne_of_lt (blk_lt BK.out)⟩; have G2 : Aside0 (wr.heap.size ≤ ga) := ⟨by rw [hg2]; first | exact Nat.le_refl _ | simp⟩; have z0 : w3.cell? ⟨ga, 0, none⟩ = some (.int .i64 0) := (blk_cell hbox2 0).trans rfl; have z1 : w3.cell? ⟨ga, 1, none⟩ = some (.int .i64 0) := (blk_cell hbox2 1).trans rfl; have z2 : w3.cell? ⟨ga, 2, none⟩ = some (.int .i64 0) := (blk_cell hbox2 2).trans rfl; have z3 : w3.cell? ⟨ga, 3, none⟩ = some (.int .i64 0) := (blk_cell hbox2 3).trans rfl; have z4 : w3.cell? ⟨ga, 4, none⟩ = some (.string ⟨#[]⟩) := (blk_cell hbox2 4).trans rfl; have z5 : w3.cell? ⟨ga, 5, none⟩ = some (.bool false) := (blk_cell hbox2 5).trans rfl; have f0 := blk_frozen hbox2 0; have f1 := blk_frozen hbox2 1; have f2 := blk_frozen hbox2 2; have f3 := blk_frozen hbox2 3; have f4 := blk_frozen hbox2 4; have f5 := blk_frozen hbox2 5;  clear hb3 hbox2 hg2)
          go_ret
          exact ⟨by rw [HF.out]; rfl, below_step BW.out (FS.set (y := y) HBB.out G2.out BE3.out BK3.out NE.out).bel⟩
        by_cases p1 : (10000 : Int) < y.f0
        · have HF : Aside0 (fromB (atomI l) l 0 = false) := ⟨by rw [OK2]; have h_ : plainA y = false := (by rw [Bool.eq_false_iff]; intro h; have := plainA_of h; omega); simp [h_]⟩
          clear OK2 HK1
          go_wp2_with ((with_reducible refine gate_dst (N := 5) rfl ?_); refine box_event ?hg (N := 5) ?hd (cs := #[.int .i64 0, .int .i64 0, .int .i64 0, .int .i64 0, .string ⟨#[]⟩, .bool false]) (t := 61) ?hr ?_; (case hd => rfl); (case hg => rfl); (case hr => first | (go_simp; done) | (go_simp; rfl)); intro ga hg2 w3 hbox2 hb3; have HBB : Aside0 (Below wr.heap.size wr w3) := ⟨hb3⟩; have BK3 := Aside0.mk (blk_below BK.out hb3); have BE3 := Aside0.mk hbox2; have NE : Aside0 (gs ≠ ga) := ⟨by rw [hg2]; exact Nat.ne_of_lt (blk_lt BK.out)⟩; have G2 : Aside0 (wr.heap.size ≤ ga) := ⟨by rw [hg2]; first | exact Nat.le_refl _ | simp⟩; have z0 : w3.cell? ⟨ga, 0, none⟩ = some (.int .i64 0) := (blk_cell hbox2 0).trans rfl; have z1 : w3.cell? ⟨ga, 1, none⟩ = some (.int .i64 0) := (blk_cell hbox2 1).trans rfl; have z2 : w3.cell? ⟨ga, 2, none⟩ = some (.int .i64 0) := (blk_cell hbox2 2).trans rfl; have z3 : w3.cell? ⟨ga, 3, none⟩ = some (.int .i64 0) := (blk_cell hbox2 3).trans rfl; have z4 : w3.cell? ⟨ga, 4, none⟩ = some (.string ⟨#[]⟩) := (blk_cell hbox2 4).trans rfl; have z5 : w3.cell? ⟨ga, 5, none⟩ = some (.bool false) := (blk_cell hbox2 5).trans rfl; have f0 := blk_frozen hbox2 0; have f1 := blk_frozen hbox2 1; have f2 := blk_frozen hbox2 2; have f3 := blk_frozen hbox2 3; have f4 := blk_frozen hbox2 4; have f5 := blk_frozen hbox2 5;  clear hb3 hbox2 hg2)
          go_ret
          exact ⟨by rw [HF.out]; rfl, below_step BW.out (FS.set (y := y) HBB.out G2.out BE3.out BK3.out NE.out).bel⟩
        by_cases p2 : y.f1 < 0
        · have HF : Aside0 (fromB (atomI l) l 0 = false) := ⟨by rw [OK2]; have h_ : plainA y = false := (by rw [Bool.eq_false_iff]; intro h; have := plainA_of h; omega); simp [h_]⟩
          clear OK2 HK1
          go_wp2_with ((with_reducible refine gate_dst (N := 5) rfl ?_); refine box_event ?hg (N := 5) ?hd (cs := #[.int .i64 0, .int .i64 0, .int .i64 0, .int .i64 0, .string ⟨#[]⟩, .bool false]) (t := 61) ?hr ?_; (case hd => rfl); (case hg => rfl); (case hr => first | (go_simp; done) | (go_simp; rfl)); intro ga hg2 w3 hbox2 hb3; have HBB : Aside0 (Below wr.heap.size wr w3) := ⟨hb3⟩; have BK3 := Aside0.mk (blk_below BK.out hb3); have BE3 := Aside0.mk hbox2; have NE : Aside0 (gs ≠ ga) := ⟨by rw [hg2]; exact Nat.ne_of_lt (blk_lt BK.out)⟩; have G2 : Aside0 (wr.heap.size ≤ ga) := ⟨by rw [hg2]; first | exact Nat.le_refl _ | simp⟩; have z0 : w3.cell? ⟨ga, 0, none⟩ = some (.int .i64 0) := (blk_cell hbox2 0).trans rfl; have z1 : w3.cell? ⟨ga, 1, none⟩ = some (.int .i64 0) := (blk_cell hbox2 1).trans rfl; have z2 : w3.cell? ⟨ga, 2, none⟩ = some (.int .i64 0) := (blk_cell hbox2 2).trans rfl; have z3 : w3.cell? ⟨ga, 3, none⟩ = some (.int .i64 0) := (blk_cell hbox2 3).trans rfl; have z4 : w3.cell? ⟨ga, 4, none⟩ = some (.string ⟨#[]⟩) := (blk_cell hbox2 4).trans rfl; have z5 : w3.cell? ⟨ga, 5, none⟩ = some (.bool false) := (blk_cell hbox2 5).trans rfl; have f0 := blk_frozen hbox2 0; have f1 := blk_frozen hbox2 1; have f2 := blk_frozen hbox2 2; have f3 := blk_frozen hbox2 3; have f4 := blk_frozen hbox2 4; have f5 := blk_frozen hbox2 5;  clear hb3 hbox2 hg2)
          go_ret
          exact ⟨by rw [HF.out]; rfl, below_step BW.out (FS.set (y := y) HBB.out G2.out BE3.out BK3.out NE.out).bel⟩
        by_cases p3 : (9 : Int) < y.f1
        · have HF : Aside0 (fromB (atomI l) l 0 = false) := ⟨by rw [OK2]; have h_ : plainA y = false := (by rw [Bool.eq_false_iff]; intro h; have := plainA_of h; omega); simp [h_]⟩
          clear OK2 HK1
          go_wp2_with ((with_reducible refine gate_dst (N := 5) rfl ?_); refine box_event ?hg (N := 5) ?hd (cs := #[.int .i64 0, .int .i64 0, .int .i64 0, .int .i64 0, .string ⟨#[]⟩, .bool false]) (t := 61) ?hr ?_; (case hd => rfl); (case hg => rfl); (case hr => first | (go_simp; done) | (go_simp; rfl)); intro ga hg2 w3 hbox2 hb3; have HBB : Aside0 (Below wr.heap.size wr w3) := ⟨hb3⟩; have BK3 := Aside0.mk (blk_below BK.out hb3); have BE3 := Aside0.mk hbox2; have NE : Aside0 (gs ≠ ga) := ⟨by rw [hg2]; exact Nat.ne_of_lt (blk_lt BK.out)⟩; have G2 : Aside0 (wr.heap.size ≤ ga) := ⟨by rw [hg2]; first | exact Nat.le_refl _ | simp⟩; have z0 : w3.cell? ⟨ga, 0, none⟩ = some (.int .i64 0) := (blk_cell hbox2 0).trans rfl; have z1 : w3.cell? ⟨ga, 1, none⟩ = some (.int .i64 0) := (blk_cell hbox2 1).trans rfl; have z2 : w3.cell? ⟨ga, 2, none⟩ = some (.int .i64 0) := (blk_cell hbox2 2).trans rfl; have z3 : w3.cell? ⟨ga, 3, none⟩ = some (.int .i64 0) := (blk_cell hbox2 3).trans rfl; have z4 : w3.cell? ⟨ga, 4, none⟩ = some (.string ⟨#[]⟩) := (blk_cell hbox2 4).trans rfl; have z5 : w3.cell? ⟨ga, 5, none⟩ = some (.bool false) := (blk_cell hbox2 5).trans rfl; have f0 := blk_frozen hbox2 0; have f1 := blk_frozen hbox2 1; have f2 := blk_frozen hbox2 2; have f3 := blk_frozen hbox2 3; have f4 := blk_frozen hbox2 4; have f5 := blk_frozen hbox2 5;  clear hb3 hbox2 hg2)
          go_ret
          exact ⟨by rw [HF.out]; rfl, below_step BW.out (FS.set (y := y) HBB.out G2.out BE3.out BK3.out NE.out).bel⟩
        cases pb : oneB y.f4 with
        | false =>
          rw [pb] at HK1
          have HF : Aside0 (fromB (atomI l) l 0 = false) := ⟨by rw [OK2]; simp [plainA, pb]⟩
          clear OK2 pb
          go_wp2_with (first | ((with_reducible refine gate_dst (N := 5) rfl ?_); refine box_event ?hg (N := 5) ?hd (cs := #[.int .i64 0, .int .i64 0, .int .i64 0, .int .i64 0, .string ⟨#[]⟩, .bool false]) (t := 61) ?hr ?_; (case hd => rfl); (case hg => rfl); (case hr => first | (go_simp; done) | (go_simp; rfl)); intro ga hg2 w3 hbox2 hb3; have HBB : Aside0 (Below wr.heap.size wr w3) := ⟨hb3⟩; have BK3 := Aside0.mk (blk_below BK.out hb3); have BE3 := Aside0.mk hbox2; have NE : Aside0 (gs ≠ ga) := ⟨by rw [hg2]; exact Nat.ne_of_lt (blk_lt BK.out)⟩; have G2 : Aside0 (wr.heap.size ≤ ga) := ⟨by rw [hg2]; first | exact Nat.le_refl _ | simp⟩; have z0 : w3.cell? ⟨ga, 0, none⟩ = some (.int .i64 0) := (blk_cell hbox2 0).trans rfl; have z1 : w3.cell? ⟨ga, 1, none⟩ = some (.int .i64 0) := (blk_cell hbox2 1).trans rfl; have z2 : w3.cell? ⟨ga, 2, none⟩ = some (.int .i64 0) := (blk_cell hbox2 2).trans rfl; have z3 : w3.cell? ⟨ga, 3, none⟩ = some (.int .i64 0) := (blk_cell hbox2 3).trans rfl; have z4 : w3.cell? ⟨ga, 4, none⟩ = some (.string ⟨#[]⟩) := (blk_cell hbox2 4).trans rfl; have z5 : w3.cell? ⟨ga, 5, none⟩ = some (.bool false) := (blk_cell hbox2 5).trans rfl; have f0 := blk_frozen hbox2 0; have f1 := blk_frozen hbox2 1; have f2 := blk_frozen hbox2 2; have f3 := blk_frozen hbox2 3; have f4 := blk_frozen hbox2 4; have f5 := blk_frozen hbox2 5;  clear hb3 hbox2 hg2) | (go_at_call 46; refine (impl_isByte.calls K1 y.f4 false _ HK1.out).mono ?_; rintro e w5 ⟨rfl, hb5⟩; have BY := Aside0.mk hb5.below; clear hb5))
          go_ret
          exact ⟨by rw [HF.out]; rfl, below_step BW.out (below_step (FS.set (y := y) HBB.out G2.out BE3.out BK3.out NE.out).bel BY.out)⟩
        | true =>
          rw [pb] at HK1
          have hpl : plainA y = true := by simp [plainA, pb]; omega
          rw [hpl, Bool.true_and] at OK2
          clear hpl pb
          go_wp2_with (first | ((with_reducible refine gate_dst (N := 5) rfl ?_); refine box_event ?hg (N := 5) ?hd (cs := #[.int .i64 0, .int .i64 0, .int .i64 0, .int .i64 0, .string ⟨#[]⟩, .bool false]) (t := 61) ?hr ?_; (case hd => rfl); (case hg => rfl); (case hr => first | (go_simp; done) | (go_simp; rfl)); intro ga hg2 w3 hbox2 hb3; have HBB : Aside0 (Below wr.heap.size wr w3) := ⟨hb3⟩; have BK3 := Aside0.mk (blk_below BK.out hb3); have BE3 := Aside0.mk hbox2; have NE : Aside0 (gs ≠ ga) := ⟨by rw [hg2]; exact Nat.ne_of_lt (blk_lt BK.out)⟩; have G2 : Aside0 (wr.heap.size ≤ ga) := ⟨by rw [hg2]; first | exact Nat.le_refl _ | simp⟩; have z0 : w3.cell? ⟨ga, 0, none⟩ = some (.int .i64 0) := (blk_cell hbox2 0).trans rfl; have z1 : w3.cell? ⟨ga, 1, none⟩ = some (.int .i64 0) := (blk_cell hbox2 1).trans rfl; have z2 : w3.cell? ⟨ga, 2, none⟩ = some (.int .i64 0) := (blk_cell hbox2 2).trans rfl; have z3 : w3.cell? ⟨ga, 3, none⟩ = some (.int .i64 0) := (blk_cell hbox2 3).trans rfl; have z4 : w3.cell? ⟨ga, 4, none⟩ = some (.string ⟨#[]⟩) := (blk_cell hbox2 4).trans rfl; have z5 : w3.cell? ⟨ga, 5, none⟩ = some (.bool false) := (blk_cell hbox2 5).trans rfl; have f0 := blk_frozen hbox2 0; have f1 := blk_frozen hbox2 1; have f2 := blk_frozen hbox2 2; have f3 := blk_frozen hbox2 3; have f4 := blk_frozen hbox2 4; have f5 := blk_frozen hbox2 5;  clear hb3 hbox2 hg2) | (go_at_call 46; refine (impl_isByte.calls K1 y.f4 true _ HK1.out).mono ?_; rintro e w5 ⟨rfl, hb5⟩; have BY := Aside0.mk hb5.below; clear hb5))
          have SW := Aside0.mk ((FS.set (y := y) HBB.out G2.out BE3.out BK3.out NE.out).step BY.out)
          have HLK : Aside0 (∀ W : World, Below wr.heap.size wr W → (Instr.lookup 69 (.map (some bm)) (.agg #[.int .i64 y.f2, .int .i64 y.f3]) false).run Try.prog W = .ok (.bool (thereB (l.take kk) y.f2 y.f3)) W) := ⟨fun W hW => (MI.out.below hW).look YW.out.2.2.1 YW.out.2.2.2.1⟩
          clear z0 z1 z2 z3 z4 z5 f0 f1 f2 f3 f4 f5 HBB BE3 BK3 NE G2 BY HK1 hx0 hx1 hx2 hx3 hx4 hx5
          have SWD := Aside0.mk SW.out.drew
          cases kk with
          | zero =>
            have hst : stepB l 0 y = true := by simp [stepB]
            rw [hst, Bool.true_and] at OK2
            clear hst
            by_cases hge : y.f0 ≤ y.f2
            · have HF : Aside0 (fromB (atomI l) l 0 = false) := ⟨by rw [OK2]; simp [show ¬ y.f2 < y.f0 by omega]⟩
              clear OK2 HLK
              refine wp_region_held_drew (S := (fun W => W.cell? ⟨gs, 0, none⟩ = some (.slice (some ad) l.length c) ∧ W.cell? ⟨ga, 0, none⟩ = some (.int .i64 y.f0) ∧ W.cell? ⟨ga, 1, none⟩ = some (.int .i64 y.f1) ∧ W.cell? ⟨ga, 2, none⟩ = some (.int .i64 y.f2) ∧ W.cell? ⟨ga, 3, none⟩ = some (.int .i64 y.f3) ∧ W.cell? ⟨ga, 4, none⟩ = some (.string y.f4) ∧ W.cell? ⟨ga, 5, none⟩ = some (.bool y.f5) ∧ Aside0 (Below wr.heap.size wr W))) (by kernel_rfl) ⟨SWD.out.1, SWD.out.2.1, SWD.out.2.2.1, SWD.out.2.2.2.1, SWD.out.2.2.2.2.1, SWD.out.2.2.2.2.2.1, SWD.out.2.2.2.2.2.2.1, ⟨SWD.out.bel⟩⟩ (fun hHeld => ?_)
              refine wpAnyH_take (i := 0) (v := ?v0_1) rfl (by kernel_rfl) (by kernel_rfl) (by kernel_rfl) (fun _ _ _ h => h) (Or.inl ⟨by rfl, ?y0_1⟩) (by assumption) ?r0_1
              case y0_1 => (intro w hSw; (try dsimp only at hSw); (go_simp; (try with_reducible rfl)))
              (try simp only [Act.put, List.getElem_toArray, List.getElem_cons_succ, List.getElem_cons_zero, List.setIfInBounds_toArray, List.set_cons_zero, List.set_cons_succ])
              refine wpAnyH_take (i := 1) (v := ?v1_2) rfl (by kernel_rfl) (by kernel_rfl) (by kernel_rfl) (fun _ _ _ h => h) (Or.inl ⟨by rfl, ?y1_2⟩) (by assumption) ?r1_2
              case y1_2 => (intro w hSw; (try dsimp only at hSw); (go_simp; (try with_reducible rfl)))
              (try simp only [Act.put, List.getElem_toArray, List.getElem_cons_succ, List.getElem_cons_zero, List.setIfInBounds_toArray, List.set_cons_zero, List.set_cons_succ])
              refine wpAnyH_take (i := 2) (v := ?v2_3) rfl (by kernel_rfl) (by kernel_rfl) (by kernel_rfl) (fun _ _ _ h => h) (Or.inl ⟨by rfl, ?y2_3⟩) (by assumption) ?r2_3
              case y2_3 => (intro w hSw; (try dsimp only at hSw); (go_simp; (try with_reducible rfl)))
              (try simp only [Act.put, List.getElem_toArray, List.getElem_cons_succ, List.getElem_cons_zero, List.setIfInBounds_toArray, List.set_cons_zero, List.set_cons_succ])
              refine wpAnyH_take (i := 3) (v := undef) rfl (by kernel_rfl) (by kernel_rfl) (by kernel_rfl) (fun _ _ _ h => h) (Or.inr ⟨by rfl, rfl⟩) (by assumption) ?_
              (try simp only [Act.put, List.getElem_toArray, List.getElem_cons_succ, List.getElem_cons_zero, List.setIfInBounds_toArray, List.set_cons_zero, List.set_cons_succ])
              refine wpAnyH_take (i := 4) (v := undef) rfl (by kernel_rfl) (by kernel_rfl) (by kernel_rfl) (fun _ _ _ h => h) (Or.inr ⟨by rfl, rfl⟩) (by assumption) ?_
              (try simp only [Act.put, List.getElem_toArray, List.getElem_cons_succ, List.getElem_cons_zero, List.setIfInBounds_toArray, List.set_cons_zero, List.set_cons_succ])
              refine wpAnyH_take (i := 5) (v := undef) rfl (by kernel_rfl) (by kernel_rfl) (by kernel_rfl) (fun _ _ _ h => h) (Or.inr ⟨by rfl, rfl⟩) (by assumption) ?_
              (try simp only [Act.put, List.getElem_toArray, List.getElem_cons_succ, List.getElem_cons_zero, List.setIfInBounds_toArray, List.set_cons_zero, List.set_cons_succ])
              refine wpAnyH_take (i := 6) (v := undef) rfl (by kernel_rfl) (by kernel_rfl) (by kernel_rfl) (fun _ _ _ h => h) (Or.inr ⟨by rfl, rfl⟩) (by assumption) ?_
              (try simp only [Act.put, List.getElem_toArray, List.getElem_cons_succ, List.getElem_cons_zero, List.setIfInBounds_toArray, List.set_cons_zero, List.set_cons_succ])
              refine wpAnyH_take (i := 7) (v := undef) rfl (by kernel_rfl) (by kernel_rfl) (by kernel_rfl) (fun _ _ _ h => h) (Or.inr ⟨by rfl, rfl⟩) (by assumption) ?_
              (try simp only [Act.put, List.getElem_toArray, List.getElem_cons_succ, List.getElem_cons_zero, List.setIfInBounds_toArray, List.set_cons_zero, List.set_cons_succ])
              refine wpAnyH_take (i := 8) (v := undef) rfl (by kernel_rfl) (by kernel_rfl) (by kernel_rfl) (fun _ _ _ h => h) (Or.inr ⟨by rfl, rfl⟩) (by assumption) ?_
              (try simp only [Act.put, List.getElem_toArray, List.getElem_cons_succ, List.getElem_cons_zero, List.setIfInBounds_toArray, List.set_cons_zero, List.set_cons_succ])
              refine wpAnyH_take (i := 9) (v := undef) rfl (by kernel_rfl) (by kernel_rfl) (by kernel_rfl) (fun _ _ _ h => h) (Or.inr ⟨by rfl, rfl⟩) (by assumption) ?_
              (try simp only [Act.put, List.getElem_toArray, List.getElem_cons_succ, List.getElem_cons_zero, List.setIfInBounds_toArray, List.set_cons_zero, List.set_cons_succ])
              refine wpAnyH_take (i := 10) (v := undef) rfl (by kernel_rfl) (by kernel_rfl) (by kernel_rfl) (fun _ _ _ h => h) (Or.inr ⟨by rfl, rfl⟩) (by assumption) ?_
              (try simp only [Act.put, List.getElem_toArray, List.getElem_cons_succ, List.getElem_cons_zero, List.setIfInBounds_toArray, List.set_cons_zero, List.set_cons_succ])
              refine wpAnyH_take (i := 11) (v := undef) rfl (by kernel_rfl) (by kernel_rfl) (by kernel_rfl) (fun _ _ _ h => h) (Or.inr ⟨by rfl, rfl⟩) (by assumption) ?_
              (try simp only [Act.put, List.getElem_toArray, List.getElem_cons_succ, List.getElem_cons_zero, List.setIfInBounds_toArray, List.set_cons_zero, List.set_cons_succ])
              refine wpAnyH_take (i := 12) (v := undef) rfl (by kernel_rfl) (by kernel_rfl) (by kernel_rfl) (fun _ _ _ h => h) (Or.inr ⟨by rfl, rfl⟩) (by assumption) ?_
              (try simp only [Act.put, List.getElem_toArray, List.getElem_cons_succ, List.getElem_cons_zero, List.setIfInBounds_toArray, List.set_cons_zero, List.set_cons_succ])
              refine wpAnyH_take (i := 13) (v := undef) rfl (by kernel_rfl) (by kernel_rfl) (by kernel_rfl) (fun _ _ _ h => h) (Or.inr ⟨by rfl, rfl⟩) (by assumption) ?_
              (try simp only [Act.put, List.getElem_toArray, List.getElem_cons_succ, List.getElem_cons_zero, List.setIfInBounds_toArray, List.set_cons_zero, List.set_cons_succ])
              refine wpAnyH_take (i := 14) (v := ?v14_4) rfl (by kernel_rfl) (by kernel_rfl) (by kernel_rfl) (fun _ _ _ h => h) (Or.inl ⟨by rfl, ?y14_4⟩) (by assumption) ?r14_4
              case y14_4 => (intro w hSw; (try dsimp only at hSw); (go_simp; (try with_reducible rfl)))
              (try simp only [Act.put, List.getElem_toArray, List.getElem_cons_succ, List.getElem_cons_zero, List.setIfInBounds_toArray, List.set_cons_zero, List.set_cons_succ])
              refine wpAnyH_take (i := 15) (v := ?v15_5) rfl (by kernel_rfl) (by kernel_rfl) (by kernel_rfl) (fun _ _ _ h => h) (Or.inl ⟨by rfl, ?y15_5⟩) (by assumption) ?r15_5
              case y15_5 => (intro w hSw; (try dsimp only at hSw); (go_simp; (try with_reducible rfl)))
              (try simp only [Act.put, List.getElem_toArray, List.getElem_cons_succ, List.getElem_cons_zero, List.setIfInBounds_toArray, List.set_cons_zero, List.set_cons_succ])
              refine wpAnyH_take (i := 16) (v := ?v16_6) rfl (by kernel_rfl) (by kernel_rfl) (by kernel_rfl) (fun _ _ _ h => h) (Or.inl ⟨by rfl, ?y16_6⟩) (by assumption) ?r16_6
              case y16_6 => (intro w hSw; (try dsimp only at hSw); (go_simp; (try with_reducible rfl)))
              (try simp only [Act.put, List.getElem_toArray, List.getElem_cons_succ, List.getElem_cons_zero, List.setIfInBounds_toArray, List.set_cons_zero, List.set_cons_succ])
              refine wpAnyH_take (i := 17) (v := ?v17_7) rfl (by kernel_rfl) (by kernel_rfl) (by kernel_rfl) (fun _ _ _ h => h) (Or.inl ⟨by rfl, ?y17_7⟩) (by assumption) ?r17_7
              case y17_7 => (intro w hSw; (try dsimp only at hSw); (go_simp; (try with_reducible rfl)))
              (try simp only [Act.put, List.getElem_toArray, List.getElem_cons_succ, List.getElem_cons_zero, List.setIfInBounds_toArray, List.set_cons_zero, List.set_cons_succ])
              refine wpAnyH_take (i := 18) (v := ?v18_8) rfl (by kernel_rfl) (by kernel_rfl) (by kernel_rfl) (fun _ _ _ h => h) (Or.inl ⟨by rfl, ?y18_8⟩) (by assumption) ?r18_8
              case y18_8 => (intro w hSw; (try dsimp only at hSw); (go_simp; (try with_reducible rfl)))
              (try simp only [Act.put, List.getElem_toArray, List.getElem_cons_succ, List.getElem_cons_zero, List.setIfInBounds_toArray, List.set_cons_zero, List.set_cons_succ])
              refine wpAnyH_take (i := 19) (v := ?v19_9) rfl (by kernel_rfl) (by kernel_rfl) (by kernel_rfl) (fun _ _ _ h => h) (Or.inl ⟨by rfl, ?y19_9⟩) (by assumption) ?r19_9
              case y19_9 => (intro w hSw; (try dsimp only at hSw); (go_simp; (try with_reducible rfl)))
              (try simp only [Act.put, List.getElem_toArray, List.getElem_cons_succ, List.getElem_cons_zero, List.setIfInBounds_toArray, List.set_cons_zero, List.set_cons_succ])
              refine wpAnyH_take (i := 20) (v := ?v20_10) rfl (by kernel_rfl) (by kernel_rfl) (by kernel_rfl) (fun _ _ _ h => h) (Or.inl ⟨by rfl, ?y20_10⟩) (by assumption) ?r20_10
              case y20_10 => (intro w hSw; (try dsimp only at hSw); (go_simp; (try with_reducible rfl)))
              (try simp only [Act.put, List.getElem_toArray, List.getElem_cons_succ, List.getElem_cons_zero, List.setIfInBounds_toArray, List.set_cons_zero, List.set_cons_succ])
              refine wpAnyH_take (i := 21) (v := ?v21_11) rfl (by kernel_rfl) (by kernel_rfl) (by kernel_rfl) (fun _ _ _ h => h) (Or.inl ⟨by rfl, ?y21_11⟩) (by assumption) ?r21_11
              case y21_11 => (intro w hSw; (try dsimp only at hSw); (go_simp; (try with_reducible rfl)))
              (try simp only [Act.put, List.getElem_toArray, List.getElem_cons_succ, List.getElem_cons_zero, List.setIfInBounds_toArray, List.set_cons_zero, List.set_cons_succ])
              refine wpAnyH_take (i := 22) (v := ?v22_12) rfl (by kernel_rfl) (by kernel_rfl) (by kernel_rfl) (fun _ _ _ h => h) (Or.inl ⟨by rfl, ?y22_12⟩) (by assumption) ?r22_12
              case y22_12 => (intro w hSw; (try dsimp only at hSw); (go_simp; (try with_reducible rfl)))
              (try simp only [Act.put, List.getElem_toArray, List.getElem_cons_succ, List.getElem_cons_zero, List.setIfInBounds_toArray, List.set_cons_zero, List.set_cons_succ])
              refine wpAnyH_take (i := 23) (v := undef) rfl (by kernel_rfl) (by kernel_rfl) (by kernel_rfl) (fun _ _ _ h => h) (Or.inr ⟨by rfl, rfl⟩) (by assumption) ?_
              (try simp only [Act.put, List.getElem_toArray, List.getElem_cons_succ, List.getElem_cons_zero, List.setIfInBounds_toArray, List.set_cons_zero, List.set_cons_succ])
              refine wpAnyH_take (i := 24) (v := undef) rfl (by kernel_rfl) (by kernel_rfl) (by kernel_rfl) (fun _ _ _ h => h) (Or.inr ⟨by rfl, rfl⟩) (by assumption) ?_
              (try simp only [Act.put, List.getElem_toArray, List.getElem_cons_succ, List.getElem_cons_zero, List.setIfInBounds_toArray, List.set_cons_zero, List.set_cons_succ])
              refine wpAnyH_take (i := 25) (v := undef) rfl (by kernel_rfl) (by kernel_rfl) (by kernel_rfl) (fun _ _ _ h => h) (Or.inr ⟨by rfl, rfl⟩) (by assumption) ?_
              (try simp only [Act.put, List.getElem_toArray, List.getElem_cons_succ, List.getElem_cons_zero, List.setIfInBounds_toArray, List.set_cons_zero, List.set_cons_succ])
              refine wpAnyH_take (i := 26) (v := undef) rfl (by kernel_rfl) (by kernel_rfl) (by kernel_rfl) (fun _ _ _ h => h) (Or.inr ⟨by rfl, rfl⟩) (by assumption) ?_
              (try simp only [Act.put, List.getElem_toArray, List.getElem_cons_succ, List.getElem_cons_zero, List.setIfInBounds_toArray, List.set_cons_zero, List.set_cons_succ])
              refine wpAnyH_take (i := 27) (v := undef) rfl (by kernel_rfl) (by kernel_rfl) (by kernel_rfl) (fun _ _ _ h => h) (Or.inr ⟨by rfl, rfl⟩) (by assumption) ?_
              (try simp only [Act.put, List.getElem_toArray, List.getElem_cons_succ, List.getElem_cons_zero, List.setIfInBounds_toArray, List.set_cons_zero, List.set_cons_succ])
              refine wpAnyH_take (i := 28) (v := ?v28_13) rfl (by kernel_rfl) (by kernel_rfl) (by kernel_rfl) (fun _ _ _ h => h) (Or.inl ⟨by rfl, ?y28_13⟩) (by assumption) ?r28_13
              case y28_13 => (intro w hSw; (try dsimp only at hSw); (go_simp; (try with_reducible rfl)))
              (try simp only [Act.put, List.getElem_toArray, List.getElem_cons_succ, List.getElem_cons_zero, List.setIfInBounds_toArray, List.set_cons_zero, List.set_cons_succ])
              refine wpAnyH_done (by kernel_rfl) ?_ _
              go_wp2
              go_ret
              exact ⟨by rw [HF.out]; rfl, below_step BW.out SWD.out.bel⟩
            · have hge2 : y.f2 < y.f0 := by omega
              rw [decide_eq_true hge2, Bool.true_and] at OK2
              have hge3 : decide (y.f0 ≤ y.f2) = false := decide_eq_false (by omega)
              clear hge
              cases hth : thereB (l.take 0) y.f2 y.f3 with
              | false =>
                rw [hth] at HLK OK2
                have HF : Aside0 (fromB (atomI l) l 0 = false) := ⟨by rw [OK2]; rfl⟩
                clear OK2 hth
                refine wp_region_held_drew (S := (fun W => W.cell? ⟨gs, 0, none⟩ = some (.slice (some ad) l.length c) ∧ W.cell? ⟨ga, 0, none⟩ = some (.int .i64 y.f0) ∧ W.cell? ⟨ga, 1, none⟩ = some (.int .i64 y.f1) ∧ W.cell? ⟨ga, 2, none⟩ = some (.int .i64 y.f2) ∧ W.cell? ⟨ga, 3, none⟩ = some (.int .i64 y.f3) ∧ W.cell? ⟨ga, 4, none⟩ = some (.string y.f4) ∧ W.cell? ⟨ga, 5, none⟩ = some (.bool y.f5) ∧ Aside0 (Below wr.heap.size wr W))) (by kernel_rfl) ⟨SWD.out.1, SWD.out.2.1, SWD.out.2.2.1, SWD.out.2.2.2.1, SWD.out.2.2.2.2.1, SWD.out.2.2.2.2.2.1, SWD.out.2.2.2.2.2.2.1, ⟨SWD.out.bel⟩⟩ (fun hHeld => ?_)
                refine wpAnyH_take (i := 0) (v := ?v0_14) rfl (by kernel_rfl) (by kernel_rfl) (by kernel_rfl) (fun _ _ _ h => h) (Or.inl ⟨by rfl, ?y0_14⟩) (by assumption) ?r0_14
                case y0_14 => (intro w hSw; (try dsimp only at hSw); (go_simp; (try with_reducible rfl)))
                (try simp only [Act.put, List.getElem_toArray, List.getElem_cons_succ, List.getElem_cons_zero, List.setIfInBounds_toArray, List.set_cons_zero, List.set_cons_succ])
                refine wpAnyH_take (i := 1) (v := ?v1_15) rfl (by kernel_rfl) (by kernel_rfl) (by kernel_rfl) (fun _ _ _ h => h) (Or.inl ⟨by rfl, ?y1_15⟩) (by assumption) ?r1_15
                case y1_15 => (intro w hSw; (try dsimp only at hSw); (go_simp; (try with_reducible rfl)))
                (try simp only [Act.put, List.getElem_toArray, List.getElem_cons_succ, List.getElem_cons_zero, List.setIfInBounds_toArray, List.set_cons_zero, List.set_cons_succ])
                refine wpAnyH_take (i := 2) (v := ?v2_16) rfl (by kernel_rfl) (by kernel_rfl) (by kernel_rfl) (fun _ _ _ h => h) (Or.inl ⟨by rfl, ?y2_16⟩) (by assumption) ?r2_16
                case y2_16 => (intro w hSw; (try dsimp only at hSw); (go_simp; (try with_reducible rfl)))
                (try simp only [Act.put, List.getElem_toArray, List.getElem_cons_succ, List.getElem_cons_zero, List.setIfInBounds_toArray, List.set_cons_zero, List.set_cons_succ])
                refine wpAnyH_take (i := 3) (v := undef) rfl (by kernel_rfl) (by kernel_rfl) (by kernel_rfl) (fun _ _ _ h => h) (Or.inr ⟨by rfl, rfl⟩) (by assumption) ?_
                (try simp only [Act.put, List.getElem_toArray, List.getElem_cons_succ, List.getElem_cons_zero, List.setIfInBounds_toArray, List.set_cons_zero, List.set_cons_succ])
                refine wpAnyH_take (i := 4) (v := undef) rfl (by kernel_rfl) (by kernel_rfl) (by kernel_rfl) (fun _ _ _ h => h) (Or.inr ⟨by rfl, rfl⟩) (by assumption) ?_
                (try simp only [Act.put, List.getElem_toArray, List.getElem_cons_succ, List.getElem_cons_zero, List.setIfInBounds_toArray, List.set_cons_zero, List.set_cons_succ])
                refine wpAnyH_take (i := 5) (v := undef) rfl (by kernel_rfl) (by kernel_rfl) (by kernel_rfl) (fun _ _ _ h => h) (Or.inr ⟨by rfl, rfl⟩) (by assumption) ?_
                (try simp only [Act.put, List.getElem_toArray, List.getElem_cons_succ, List.getElem_cons_zero, List.setIfInBounds_toArray, List.set_cons_zero, List.set_cons_succ])
                refine wpAnyH_take (i := 6) (v := undef) rfl (by kernel_rfl) (by kernel_rfl) (by kernel_rfl) (fun _ _ _ h => h) (Or.inr ⟨by rfl, rfl⟩) (by assumption) ?_
                (try simp only [Act.put, List.getElem_toArray, List.getElem_cons_succ, List.getElem_cons_zero, List.setIfInBounds_toArray, List.set_cons_zero, List.set_cons_succ])
                refine wpAnyH_take (i := 7) (v := undef) rfl (by kernel_rfl) (by kernel_rfl) (by kernel_rfl) (fun _ _ _ h => h) (Or.inr ⟨by rfl, rfl⟩) (by assumption) ?_
                (try simp only [Act.put, List.getElem_toArray, List.getElem_cons_succ, List.getElem_cons_zero, List.setIfInBounds_toArray, List.set_cons_zero, List.set_cons_succ])
                refine wpAnyH_take (i := 8) (v := undef) rfl (by kernel_rfl) (by kernel_rfl) (by kernel_rfl) (fun _ _ _ h => h) (Or.inr ⟨by rfl, rfl⟩) (by assumption) ?_
                (try simp only [Act.put, List.getElem_toArray, List.getElem_cons_succ, List.getElem_cons_zero, List.setIfInBounds_toArray, List.set_cons_zero, List.set_cons_succ])
                refine wpAnyH_take (i := 9) (v := undef) rfl (by kernel_rfl) (by kernel_rfl) (by kernel_rfl) (fun _ _ _ h => h) (Or.inr ⟨by rfl, rfl⟩) (by assumption) ?_
                (try simp only [Act.put, List.getElem_toArray, List.getElem_cons_succ, List.getElem_cons_zero, List.setIfInBounds_toArray, List.set_cons_zero, List.set_cons_succ])
                refine wpAnyH_take (i := 10) (v := undef) rfl (by kernel_rfl) (by kernel_rfl) (by kernel_rfl) (fun _ _ _ h => h) (Or.inr ⟨by rfl, rfl⟩) (by assumption) ?_
                (try simp only [Act.put, List.getElem_toArray, List.getElem_cons_succ, List.getElem_cons_zero, List.setIfInBounds_toArray, List.set_cons_zero, List.set_cons_succ])
                refine wpAnyH_take (i := 11) (v := undef) rfl (by kernel_rfl) (by kernel_rfl) (by kernel_rfl) (fun _ _ _ h => h) (Or.inr ⟨by rfl, rfl⟩) (by assumption) ?_
                (try simp only [Act.put, List.getElem_toArray, List.getElem_cons_succ, List.getElem_cons_zero, List.setIfInBounds_toArray, List.set_cons_zero, List.set_cons_succ])
                refine wpAnyH_take (i := 12) (v := undef) rfl (by kernel_rfl) (by kernel_rfl) (by kernel_rfl) (fun _ _ _ h => h) (Or.inr ⟨by rfl, rfl⟩) (by assumption) ?_
                (try simp only [Act.put, List.getElem_toArray, List.getElem_cons_succ, List.getElem_cons_zero, List.setIfInBounds_toArray, List.set_cons_zero, List.set_cons_succ])
                refine wpAnyH_take (i := 13) (v := undef) rfl (by kernel_rfl) (by kernel_rfl) (by kernel_rfl) (fun _ _ _ h => h) (Or.inr ⟨by rfl, rfl⟩) (by assumption) ?_
                (try simp only [Act.put, List.getElem_toArray, List.getElem_cons_succ, List.getElem_cons_zero, List.setIfInBounds_toArray, List.set_cons_zero, List.set_cons_succ])
                refine wpAnyH_take (i := 14) (v := ?v14_17) rfl (by kernel_rfl) (by kernel_rfl) (by kernel_rfl) (fun _ _ _ h => h) (Or.inl ⟨by rfl, ?y14_17⟩) (by assumption) ?r14_17
                case y14_17 => (intro w hSw; (try dsimp only at hSw); (go_simp; (try with_reducible rfl)))
                (try simp only [Act.put, List.getElem_toArray, List.getElem_cons_succ, List.getElem_cons_zero, List.setIfInBounds_toArray, List.set_cons_zero, List.set_cons_succ])
                refine wpAnyH_take (i := 15) (v := ?v15_18) rfl (by kernel_rfl) (by kernel_rfl) (by kernel_rfl) (fun _ _ _ h => h) (Or.inl ⟨by rfl, ?y15_18⟩) (by assumption) ?r15_18
                case y15_18 => (intro w hSw; (try dsimp only at hSw); (go_simp; (try with_reducible rfl)))
                (try simp only [Act.put, List.getElem_toArray, List.getElem_cons_succ, List.getElem_cons_zero, List.setIfInBounds_toArray, List.set_cons_zero, List.set_cons_succ])
                refine wpAnyH_take (i := 16) (v := ?v16_19) rfl (by kernel_rfl) (by kernel_rfl) (by kernel_rfl) (fun _ _ _ h => h) (Or.inl ⟨by rfl, ?y16_19⟩) (by assumption) ?r16_19
                case y16_19 => (intro w hSw; (try dsimp only at hSw); (go_simp; (try with_reducible rfl)))
                (try simp only [Act.put, List.getElem_toArray, List.getElem_cons_succ, List.getElem_cons_zero, List.setIfInBounds_toArray, List.set_cons_zero, List.set_cons_succ])
                refine wpAnyH_take (i := 17) (v := ?v17_20) rfl (by kernel_rfl) (by kernel_rfl) (by kernel_rfl) (fun _ _ _ h => h) (Or.inl ⟨by rfl, ?y17_20⟩) (by assumption) ?r17_20
                case y17_20 => (intro w hSw; (try dsimp only at hSw); (go_simp; (try with_reducible rfl)))
                (try simp only [Act.put, List.getElem_toArray, List.getElem_cons_succ, List.getElem_cons_zero, List.setIfInBounds_toArray, List.set_cons_zero, List.set_cons_succ])
                refine wpAnyH_take (i := 18) (v := ?v18_21) rfl (by kernel_rfl) (by kernel_rfl) (by kernel_rfl) (fun _ _ _ h => h) (Or.inl ⟨by rfl, ?y18_21⟩) (by assumption) ?r18_21
                case y18_21 => (intro w hSw; (try dsimp only at hSw); (go_simp; (try with_reducible rfl)))
                (try simp only [Act.put, List.getElem_toArray, List.getElem_cons_succ, List.getElem_cons_zero, List.setIfInBounds_toArray, List.set_cons_zero, List.set_cons_succ])
                refine wpAnyH_take (i := 19) (v := ?v19_22) rfl (by kernel_rfl) (by kernel_rfl) (by kernel_rfl) (fun _ _ _ h => h) (Or.inl ⟨by rfl, ?y19_22⟩) (by assumption) ?r19_22
                case y19_22 => (intro w hSw; (try dsimp only at hSw); (go_simp; (try with_reducible rfl)))
                (try simp only [Act.put, List.getElem_toArray, List.getElem_cons_succ, List.getElem_cons_zero, List.setIfInBounds_toArray, List.set_cons_zero, List.set_cons_succ])
                refine wpAnyH_take (i := 20) (v := ?v20_23) rfl (by kernel_rfl) (by kernel_rfl) (by kernel_rfl) (fun _ _ _ h => h) (Or.inl ⟨by rfl, ?y20_23⟩) (by assumption) ?r20_23
                case y20_23 => (intro w hSw; (try dsimp only at hSw); (go_simp; (try with_reducible rfl)))
                (try simp only [Act.put, List.getElem_toArray, List.getElem_cons_succ, List.getElem_cons_zero, List.setIfInBounds_toArray, List.set_cons_zero, List.set_cons_succ])
                refine wpAnyH_take (i := 21) (v := ?v21_24) rfl (by kernel_rfl) (by kernel_rfl) (by kernel_rfl) (fun _ _ _ h => h) (Or.inl ⟨by rfl, ?y21_24⟩) (by assumption) ?r21_24
                case y21_24 => (intro w hSw; (try dsimp only at hSw); (go_simp; (try with_reducible rfl)))
                (try simp only [Act.put, List.getElem_toArray, List.getElem_cons_succ, List.getElem_cons_zero, List.setIfInBounds_toArray, List.set_cons_zero, List.set_cons_succ])
                refine wpAnyH_take (i := 22) (v := ?v22_25) rfl (by kernel_rfl) (by kernel_rfl) (by kernel_rfl) (fun _ _ _ h => h) (Or.inl ⟨by rfl, ?y22_25⟩) (by assumption) ?r22_25
                case y22_25 => (intro w hSw; (try dsimp only at hSw); (go_simp; (try with_reducible rfl)))
                (try simp only [Act.put, List.getElem_toArray, List.getElem_cons_succ, List.getElem_cons_zero, List.setIfInBounds_toArray, List.set_cons_zero, List.set_cons_succ])
                refine wpAnyH_take (i := 23) (v := ?v23_26) rfl (by kernel_rfl) (by kernel_rfl) (by kernel_rfl) (fun _ _ _ h => h) (Or.inl ⟨by rfl, ?y23_26⟩) (by assumption) ?r23_26
                case y23_26 => (intro w hSw; (try dsimp only at hSw); (go_simp; (try with_reducible rfl)))
                (try simp only [Act.put, List.getElem_toArray, List.getElem_cons_succ, List.getElem_cons_zero, List.setIfInBounds_toArray, List.set_cons_zero, List.set_cons_succ])
                refine wpAnyH_take (i := 24) (v := ?v24_27) rfl (by kernel_rfl) (by kernel_rfl) (by kernel_rfl) (fun _ _ _ h => h) (Or.inl ⟨by rfl, ?y24_27⟩) (by assumption) ?r24_27
                case y24_27 => (intro w hSw; (try dsimp only at hSw); (go_simp; (try with_reducible rfl)))
                (try simp only [Act.put, List.getElem_toArray, List.getElem_cons_succ, List.getElem_cons_zero, List.setIfInBounds_toArray, List.set_cons_zero, List.set_cons_succ])
                refine wpAnyH_ready (rs := [25]) (by kernel_rfl) (by simp) ?_
                refine AllReadyH.cons rfl (fun K hK => ?_) AllReadyH.nil
                go_simp
                go_at_call 49
                refine (impl_Atom_behind.calls y.f0 y.f1 y.f2 y.f3 y.f4 y.f5 y.f2 y.f3 _ rfl).mono ?_
                rintro e w5 ⟨rfl, hb5⟩
                have TC := Aside0.mk (SWD.out.step hb5)
                clear hb5
                (try dsimp only)
                refine hK.out _ _ ⟨TC.out.1, TC.out.2.1, TC.out.2.2.1, TC.out.2.2.2.1, TC.out.2.2.2.2.1, TC.out.2.2.2.2.2.1, TC.out.2.2.2.2.2.2.1, ⟨TC.out.bel⟩⟩ (fun hHeld2 => ?_)
                clear hK K
                (try simp only [Act.put, List.getElem_toArray, List.getElem_cons_succ, List.getElem_cons_zero, List.setIfInBounds_toArray, List.set_cons_zero, List.set_cons_succ])
                refine wpAnyH_take (i := 26) (v := .bool false) rfl (by kernel_rfl) (by kernel_rfl) (by kernel_rfl) (fun _ _ _ h => h) (Or.inl ⟨by rfl, ?y26_28⟩) (by assumption) ?r26_28
                case y26_28 => (intro w hSw; (try dsimp only at hSw); have e_ := HLK.out w hSw.2.2.2.2.2.2.2.out; clear hSw; go_simp)
                (try simp only [Act.put, List.getElem_toArray, List.getElem_cons_succ, List.getElem_cons_zero, List.setIfInBounds_toArray, List.set_cons_zero, List.set_cons_succ])
                refine wpAnyH_take (i := 27) (v := ?v27_29) rfl (by kernel_rfl) (by kernel_rfl) (by kernel_rfl) (fun _ _ _ h => h) (Or.inl ⟨by rfl, ?y27_29⟩) (by assumption) ?r27_29
                case y27_29 => (intro w hSw; (try dsimp only at hSw); (go_simp; (try with_reducible rfl)))
                (try simp only [Act.put, List.getElem_toArray, List.getElem_cons_succ, List.getElem_cons_zero, List.setIfInBounds_toArray, List.set_cons_zero, List.set_cons_succ])
                refine wpAnyH_take (i := 28) (v := ?v28_30) rfl (by kernel_rfl) (by kernel_rfl) (by kernel_rfl) (fun _ _ _ h => h) (Or.inl ⟨by rfl, ?y28_30⟩) (by assumption) ?r28_30
                case y28_30 => (intro w hSw; (try dsimp only at hSw); (go_simp; (try with_reducible rfl)))
                (try simp only [Act.put, List.getElem_toArray, List.getElem_cons_succ, List.getElem_cons_zero, List.setIfInBounds_toArray, List.set_cons_zero, List.set_cons_succ])
                refine wpAnyH_done (by kernel_rfl) ?_ _
                go_wp2
                go_ret
                exact ⟨by rw [HF.out]; rfl, below_step BW.out TC.out.bel⟩
              | true =>
                rw [hth] at HLK OK2
                have HF : Aside0 (fromB (atomI l) l 0 = fromB (atomI l) (l.drop (0 + 1)) (0 + 1)) := ⟨by rw [OK2]; rfl⟩
                clear OK2 hth
                refine wp_region_held_drew (S := (fun W => W.cell? ⟨gs, 0, none⟩ = some (.slice (some ad) l.length c) ∧ W.cell? ⟨ga, 0, none⟩ = some (.int .i64 y.f0) ∧ W.cell? ⟨ga, 1, none⟩ = some (.int .i64 y.f1) ∧ W.cell? ⟨ga, 2, none⟩ = some (.int .i64 y.f2) ∧ W.cell? ⟨ga, 3, none⟩ = some (.int .i64 y.f3) ∧ W.cell? ⟨ga, 4, none⟩ = some (.string y.f4) ∧ W.cell? ⟨ga, 5, none⟩ = some (.bool y.f5) ∧ Aside0 (Below wr.heap.size wr W))) (by kernel_rfl) ⟨SWD.out.1, SWD.out.2.1, SWD.out.2.2.1, SWD.out.2.2.2.1, SWD.out.2.2.2.2.1, SWD.out.2.2.2.2.2.1, SWD.out.2.2.2.2.2.2.1, ⟨SWD.out.bel⟩⟩ (fun hHeld => ?_)
                refine wpAnyH_take (i := 0) (v := ?v0_31) rfl (by kernel_rfl) (by kernel_rfl) (by kernel_rfl) (fun _ _ _ h => h) (Or.inl ⟨by rfl, ?y0_31⟩) (by assumption) ?r0_31
                case y0_31 => (intro w hSw; (try dsimp only at hSw); (go_simp; (try with_reducible rfl)))
                (try simp only [Act.put, List.getElem_toArray, List.getElem_cons_succ, List.getElem_cons_zero, List.setIfInBounds_toArray, List.set_cons_zero, List.set_cons_succ])
                refine wpAnyH_take (i := 1) (v := ?v1_32) rfl (by kernel_rfl) (by kernel_rfl) (by kernel_rfl) (fun _ _ _ h => h) (Or.inl ⟨by rfl, ?y1_32⟩) (by assumption) ?r1_32
                case y1_32 => (intro w hSw; (try dsimp only at hSw); (go_simp; (try with_reducible rfl)))
                (try simp only [Act.put, List.getElem_toArray, List.getElem_cons_succ, List.getElem_cons_zero, List.setIfInBounds_toArray, List.set_cons_zero, List.set_cons_succ])
                refine wpAnyH_take (i := 2) (v := ?v2_33) rfl (by kernel_rfl) (by kernel_rfl) (by kernel_rfl) (fun _ _ _ h => h) (Or.inl ⟨by rfl, ?y2_33⟩) (by assumption) ?r2_33
                case y2_33 => (intro w hSw; (try dsimp only at hSw); (go_simp; (try with_reducible rfl)))
                (try simp only [Act.put, List.getElem_toArray, List.getElem_cons_succ, List.getElem_cons_zero, List.setIfInBounds_toArray, List.set_cons_zero, List.set_cons_succ])
                refine wpAnyH_take (i := 3) (v := undef) rfl (by kernel_rfl) (by kernel_rfl) (by kernel_rfl) (fun _ _ _ h => h) (Or.inr ⟨by rfl, rfl⟩) (by assumption) ?_
                (try simp only [Act.put, List.getElem_toArray, List.getElem_cons_succ, List.getElem_cons_zero, List.setIfInBounds_toArray, List.set_cons_zero, List.set_cons_succ])
                refine wpAnyH_take (i := 4) (v := undef) rfl (by kernel_rfl) (by kernel_rfl) (by kernel_rfl) (fun _ _ _ h => h) (Or.inr ⟨by rfl, rfl⟩) (by assumption) ?_
                (try simp only [Act.put, List.getElem_toArray, List.getElem_cons_succ, List.getElem_cons_zero, List.setIfInBounds_toArray, List.set_cons_zero, List.set_cons_succ])
                refine wpAnyH_take (i := 5) (v := undef) rfl (by kernel_rfl) (by kernel_rfl) (by kernel_rfl) (fun _ _ _ h => h) (Or.inr ⟨by rfl, rfl⟩) (by assumption) ?_
                (try simp only [Act.put, List.getElem_toArray, List.getElem_cons_succ, List.getElem_cons_zero, List.setIfInBounds_toArray, List.set_cons_zero, List.set_cons_succ])
                refine wpAnyH_take (i := 6) (v := undef) rfl (by kernel_rfl) (by kernel_rfl) (by kernel_rfl) (fun _ _ _ h => h) (Or.inr ⟨by rfl, rfl⟩) (by assumption) ?_
                (try simp only [Act.put, List.getElem_toArray, List.getElem_cons_succ, List.getElem_cons_zero, List.setIfInBounds_toArray, List.set_cons_zero, List.set_cons_succ])
                refine wpAnyH_take (i := 7) (v := undef) rfl (by kernel_rfl) (by kernel_rfl) (by kernel_rfl) (fun _ _ _ h => h) (Or.inr ⟨by rfl, rfl⟩) (by assumption) ?_
                (try simp only [Act.put, List.getElem_toArray, List.getElem_cons_succ, List.getElem_cons_zero, List.setIfInBounds_toArray, List.set_cons_zero, List.set_cons_succ])
                refine wpAnyH_take (i := 8) (v := undef) rfl (by kernel_rfl) (by kernel_rfl) (by kernel_rfl) (fun _ _ _ h => h) (Or.inr ⟨by rfl, rfl⟩) (by assumption) ?_
                (try simp only [Act.put, List.getElem_toArray, List.getElem_cons_succ, List.getElem_cons_zero, List.setIfInBounds_toArray, List.set_cons_zero, List.set_cons_succ])
                refine wpAnyH_take (i := 9) (v := undef) rfl (by kernel_rfl) (by kernel_rfl) (by kernel_rfl) (fun _ _ _ h => h) (Or.inr ⟨by rfl, rfl⟩) (by assumption) ?_
                (try simp only [Act.put, List.getElem_toArray, List.getElem_cons_succ, List.getElem_cons_zero, List.setIfInBounds_toArray, List.set_cons_zero, List.set_cons_succ])
                refine wpAnyH_take (i := 10) (v := undef) rfl (by kernel_rfl) (by kernel_rfl) (by kernel_rfl) (fun _ _ _ h => h) (Or.inr ⟨by rfl, rfl⟩) (by assumption) ?_
                (try simp only [Act.put, List.getElem_toArray, List.getElem_cons_succ, List.getElem_cons_zero, List.setIfInBounds_toArray, List.set_cons_zero, List.set_cons_succ])
                refine wpAnyH_take (i := 11) (v := undef) rfl (by kernel_rfl) (by kernel_rfl) (by kernel_rfl) (fun _ _ _ h => h) (Or.inr ⟨by rfl, rfl⟩) (by assumption) ?_
                (try simp only [Act.put, List.getElem_toArray, List.getElem_cons_succ, List.getElem_cons_zero, List.setIfInBounds_toArray, List.set_cons_zero, List.set_cons_succ])
                refine wpAnyH_take (i := 12) (v := undef) rfl (by kernel_rfl) (by kernel_rfl) (by kernel_rfl) (fun _ _ _ h => h) (Or.inr ⟨by rfl, rfl⟩) (by assumption) ?_
                (try simp only [Act.put, List.getElem_toArray, List.getElem_cons_succ, List.getElem_cons_zero, List.setIfInBounds_toArray, List.set_cons_zero, List.set_cons_succ])
                refine wpAnyH_take (i := 13) (v := undef) rfl (by kernel_rfl) (by kernel_rfl) (by kernel_rfl) (fun _ _ _ h => h) (Or.inr ⟨by rfl, rfl⟩) (by assumption) ?_
                (try simp only [Act.put, List.getElem_toArray, List.getElem_cons_succ, List.getElem_cons_zero, List.setIfInBounds_toArray, List.set_cons_zero, List.set_cons_succ])
                refine wpAnyH_take (i := 14) (v := ?v14_34) rfl (by kernel_rfl) (by kernel_rfl) (by kernel_rfl) (fun _ _ _ h => h) (Or.inl ⟨by rfl, ?y14_34⟩) (by assumption) ?r14_34
                case y14_34 => (intro w hSw; (try dsimp only at hSw); (go_simp; (try with_reducible rfl)))
                (try simp only [Act.put, List.getElem_toArray, List.getElem_cons_succ, List.getElem_cons_zero, List.setIfInBounds_toArray, List.set_cons_zero, List.set_cons_succ])
                refine wpAnyH_take (i := 15) (v := ?v15_35) rfl (by kernel_rfl) (by kernel_rfl) (by kernel_rfl) (fun _ _ _ h => h) (Or.inl ⟨by rfl, ?y15_35⟩) (by assumption) ?r15_35
                case y15_35 => (intro w hSw; (try dsimp only at hSw); (go_simp; (try with_reducible rfl)))
                (try simp only [Act.put, List.getElem_toArray, List.getElem_cons_succ, List.getElem_cons_zero, List.setIfInBounds_toArray, List.set_cons_zero, List.set_cons_succ])
                refine wpAnyH_take (i := 16) (v := ?v16_36) rfl (by kernel_rfl) (by kernel_rfl) (by kernel_rfl) (fun _ _ _ h => h) (Or.inl ⟨by rfl, ?y16_36⟩) (by assumption) ?r16_36
                case y16_36 => (intro w hSw; (try dsimp only at hSw); (go_simp; (try with_reducible rfl)))
                (try simp only [Act.put, List.getElem_toArray, List.getElem_cons_succ, List.getElem_cons_zero, List.setIfInBounds_toArray, List.set_cons_zero, List.set_cons_succ])
                refine wpAnyH_take (i := 17) (v := ?v17_37) rfl (by kernel_rfl) (by kernel_rfl) (by kernel_rfl) (fun _ _ _ h => h) (Or.inl ⟨by rfl, ?y17_37⟩) (by assumption) ?r17_37
                case y17_37 => (intro w hSw; (try dsimp only at hSw); (go_simp; (try with_reducible rfl)))
                (try simp only [Act.put, List.getElem_toArray, List.getElem_cons_succ, List.getElem_cons_zero, List.setIfInBounds_toArray, List.set_cons_zero, List.set_cons_succ])
                refine wpAnyH_take (i := 18) (v := ?v18_38) rfl (by kernel_rfl) (by kernel_rfl) (by kernel_rfl) (fun _ _ _ h => h) (Or.inl ⟨by rfl, ?y18_38⟩) (by assumption) ?r18_38
                case y18_38 => (intro w hSw; (try dsimp only at hSw); (go_simp; (try with_reducible rfl)))
                (try simp only [Act.put, List.getElem_toArray, List.getElem_cons_succ, List.getElem_cons_zero, List.setIfInBounds_toArray, List.set_cons_zero, List.set_cons_succ])
                refine wpAnyH_take (i := 19) (v := ?v19_39) rfl (by kernel_rfl) (by kernel_rfl) (by kernel_rfl) (fun _ _ _ h => h) (Or.inl ⟨by rfl, ?y19_39⟩) (by assumption) ?r19_39
                case y19_39 => (intro w hSw; (try dsimp only at hSw); (go_simp; (try with_reducible rfl)))
                (try simp only [Act.put, List.getElem_toArray, List.getElem_cons_succ, List.getElem_cons_zero, List.setIfInBounds_toArray, List.set_cons_zero, List.set_cons_succ])
                refine wpAnyH_take (i := 20) (v := ?v20_40) rfl (by kernel_rfl) (by kernel_rfl) (by kernel_rfl) (fun _ _ _ h => h) (Or.inl ⟨by rfl, ?y20_40⟩) (by assumption) ?r20_40
                case y20_40 => (intro w hSw; (try dsimp only at hSw); (go_simp; (try with_reducible rfl)))
                (try simp only [Act.put, List.getElem_toArray, List.getElem_cons_succ, List.getElem_cons_zero, List.setIfInBounds_toArray, List.set_cons_zero, List.set_cons_succ])
                refine wpAnyH_take (i := 21) (v := ?v21_41) rfl (by kernel_rfl) (by kernel_rfl) (by kernel_rfl) (fun _ _ _ h => h) (Or.inl ⟨by rfl, ?y21_41⟩) (by assumption) ?r21_41
                case y21_41 => (intro w hSw; (try dsimp only at hSw); (go_simp; (try with_reducible rfl)))
                (try simp only [Act.put, List.getElem_toArray, List.getElem_cons_succ, List.getElem_cons_zero, List.setIfInBounds_toArray, List.set_cons_zero, List.set_cons_succ])
                refine wpAnyH_take (i := 22) (v := ?v22_42) rfl (by kernel_rfl) (by kernel_rfl) (by kernel_rfl) (fun _ _ _ h => h) (Or.inl ⟨by rfl, ?y22_42⟩) (by assumption) ?r22_42
                case y22_42 => (intro w hSw; (try dsimp only at hSw); (go_simp; (try with_reducible rfl)))
                (try simp only [Act.put, List.getElem_toArray, List.getElem_cons_succ, List.getElem_cons_zero, List.setIfInBounds_toArray, List.set_cons_zero, List.set_cons_succ])
                refine wpAnyH_take (i := 23) (v := ?v23_43) rfl (by kernel_rfl) (by kernel_rfl) (by kernel_rfl) (fun _ _ _ h => h) (Or.inl ⟨by rfl, ?y23_43⟩) (by assumption) ?r23_43
                case y23_43 => (intro w hSw; (try dsimp only at hSw); (go_simp; (try with_reducible rfl)))
                (try simp only [Act.put, List.getElem_toArray, List.getElem_cons_succ, List.getElem_cons_zero, List.setIfInBounds_toArray, List.set_cons_zero, List.set_cons_succ])
                refine wpAnyH_take (i := 24) (v := ?v24_44) rfl (by kernel_rfl) (by kernel_rfl) (by kernel_rfl) (fun _ _ _ h => h) (Or.inl ⟨by rfl, ?y24_44⟩) (by assumption) ?r24_44
                case y24_44 => (intro w hSw; (try dsimp only at hSw); (go_simp; (try with_reducible rfl)))
                (try simp only [Act.put, List.getElem_toArray, List.getElem_cons_succ, List.getElem_cons_zero, List.setIfInBounds_toArray, List.set_cons_zero, List.set_cons_succ])
                refine wpAnyH_ready (rs := [25]) (by kernel_rfl) (by simp) ?_
                refine AllReadyH.cons rfl (fun K hK => ?_) AllReadyH.nil
                go_simp
                go_at_call 49
                refine (impl_Atom_behind.calls y.f0 y.f1 y.f2 y.f3 y.f4 y.f5 y.f2 y.f3 _ rfl).mono ?_
                rintro e w5 ⟨rfl, hb5⟩
                have TC := Aside0.mk (SWD.out.step hb5)
                clear hb5
                (try dsimp only)
                refine hK.out _ _ ⟨TC.out.1, TC.out.2.1, TC.out.2.2.1, TC.out.2.2.2.1, TC.out.2.2.2.2.1, TC.out.2.2.2.2.2.1, TC.out.2.2.2.2.2.2.1, ⟨TC.out.bel⟩⟩ (fun hHeld2 => ?_)
                clear hK K
                (try simp only [Act.put, List.getElem_toArray, List.getElem_cons_succ, List.getElem_cons_zero, List.setIfInBounds_toArray, List.set_cons_zero, List.set_cons_succ])
                refine wpAnyH_take (i := 26) (v := .bool true) rfl (by kernel_rfl) (by kernel_rfl) (by kernel_rfl) (fun _ _ _ h => h) (Or.inl ⟨by rfl, ?y26_45⟩) (by assumption) ?r26_45
                case y26_45 => (intro w hSw; (try dsimp only at hSw); have e_ := HLK.out w hSw.2.2.2.2.2.2.2.out; clear hSw; go_simp)
                (try simp only [Act.put, List.getElem_toArray, List.getElem_cons_succ, List.getElem_cons_zero, List.setIfInBounds_toArray, List.set_cons_zero, List.set_cons_succ])
                refine wpAnyH_take (i := 27) (v := ?v27_46) rfl (by kernel_rfl) (by kernel_rfl) (by kernel_rfl) (fun _ _ _ h => h) (Or.inl ⟨by rfl, ?y27_46⟩) (by assumption) ?r27_46
                case y27_46 => (intro w hSw; (try dsimp only at hSw); (go_simp; (try with_reducible rfl)))
                (try simp only [Act.put, List.getElem_toArray, List.getElem_cons_succ, List.getElem_cons_zero, List.setIfInBounds_toArray, List.set_cons_zero, List.set_cons_succ])
                refine wpAnyH_take (i := 28) (v := ?v28_47) rfl (by kernel_rfl) (by kernel_rfl) (by kernel_rfl) (fun _ _ _ h => h) (Or.inl ⟨by rfl, ?y28_47⟩) (by assumption) ?r28_47
                case y28_47 => (intro w hSw; (try dsimp only at hSw); (go_simp; (try with_reducible rfl)))
                (try simp only [Act.put, List.getElem_toArray, List.getElem_cons_succ, List.getElem_cons_zero, List.setIfInBounds_toArray, List.set_cons_zero, List.set_cons_succ])
                refine wpAnyH_done (by kernel_rfl) ?_ _
                have CE := TC.out
                have u1 := CE.2.1
                have u2 := CE.2.2.1
                have u3 := CE.2.2.2.1
                have u4 := CE.2.2.2.2.1
                have u5 := CE.2.2.2.2.2.1
                have u6 := CE.2.2.2.2.2.2.1
                clear CE
                go_wp2_with (first | (go_at_call 47; refine (impl_Atom_id.calls y.f0 y.f1 y.f2 y.f3 y.f4 y.f5 y.f0 y.f1 _ rfl).mono ?_; rintro e w7 ⟨rfl, hb7⟩; have TD := Aside0.mk (TC.out.step hb7); clear hb7; obtain ⟨kl, hkl⟩ := key_id YW.out.1 YW.out.2.1; have HKL := Aside0.mk hkl; clear hkl; obtain ⟨D, hD1, hD2⟩ := (MI.out.below TD.out.bel); have HD2 := Aside0.mk hD2; clear hD2) | (at_mapUpdate; refine wpList_mapUpdate_own _ rfl _ _ _ 69 rfl 68 4 lawId Try.underlying69 _ _ (0 + 1) D rfl hD1 (by unfold maxLen; omega) _ _ _ rfl rfl HKL.out _ [] (plainElem_bool Try.underlying4 true) ?_; intro w8 hown8 hgrow8))
                have MI8 := Aside0.mk (MapIs.snoc HD2.out HKL.out hown8)
                have BK8 : Aside0 (w8.heap[gs]? = some (.cells #[.slice (some ad) l.length c] 29 (0, 0))) := ⟨blk_grown (blk_below BK.out TD.out.bel) hgrow8 (fun e => (MI.out.ne BK.out) (Option.some.inj e))⟩
                have HB8 : Aside0 (Below w.heap.size w w8) := ⟨(below_step BW.out TD.out.bel).grown hgrow8 (below_step BW.out TD.out.bel).size (by intro k hk; cases hk; exact BM.out)⟩
                clear hown8 hgrow8 hD1
                go_roundg (l.length - (0 + 1))
                case measure => omega
                case rel => have hl64 := HL.out; exact ⟨0 + 1, by omega, by omega, by (first | go_num | (congr 1; unfold wrap64; omega)), ⟨HB8.out⟩, ⟨BK8.out⟩, ⟨by rw [TK.out]; exact MI8.out⟩, ⟨HF.out⟩⟩
          | succ j =>
            have hj1 : (j : Int) < (l.length : Int) := by omega
            have hj0 : (0 : Int) ≤ (j : Int) := by omega
            have hwj0 : IntKind.i64.wrap (j : Int) = (j : Int) := IntWalk.i64_in _ (by omega)
            have HWJ := Aside0.mk hwj0
            clear hwj0
            obtain ⟨ad', e2, qx0, qx1, qx2, qx3, qx4, qx5⟩ := at_T61 (Kd.C_below HR.out BW.out) (j : Int) hj0 hj1
            cases e2
            rw [rd_atom l j (by omega)] at qx0 qx1 qx2 qx3 qx4 qx5
            rw [Int.toNat_natCast] at qx0 qx1 qx2 qx3 qx4 qx5
            have hst : stepB l (j + 1) y = lessB (l[j]'(by omega)).f0 (l[j]'(by omega)).f1 y.f0 y.f1 := by simp [stepB, show j < l.length by omega]
            rw [hst] at OK2
            clear hst
            generalize l[j]'(by omega) = x at qx0 qx1 qx2 qx3 qx4 qx5 OK2
            have PVH : Aside0 (PV (ad.add (j * 6)) x wr) := ⟨qx0, qx1, qx2, qx3, qx4, qx5⟩
            clear qx0 qx1 qx2 qx3 qx4 qx5
            have hbv := before_val x.f0 x.f1 y.f0 y.f1
            cases hbf : lessB x.f0 x.f1 y.f0 y.f1 with
            | false =>
              rw [hbf] at hbv OK2
              have HBF := Aside0.mk hbv
              have HF : Aside0 (fromB (atomI l) l 0 = false) := ⟨by rw [OK2]; simp⟩
              clear OK2 hbv hbf HLK
              have hwj := HWJ.out
              refine wp_region_held_drew (S := (fun W => W.cell? ⟨gs, 0, none⟩ = some (.slice (some ad) l.length c) ∧ W.cell? ⟨ga, 0, none⟩ = some (.int .i64 y.f0) ∧ W.cell? ⟨ga, 1, none⟩ = some (.int .i64 y.f1) ∧ W.cell? ⟨ga, 2, none⟩ = some (.int .i64 y.f2) ∧ W.cell? ⟨ga, 3, none⟩ = some (.int .i64 y.f3) ∧ W.cell? ⟨ga, 4, none⟩ = some (.string y.f4) ∧ W.cell? ⟨ga, 5, none⟩ = some (.bool y.f5) ∧ Aside0 (Below wr.heap.size wr W) ∧ W.cell? (ad.add (j * 6)) = some (.int .i64 x.f0) ∧ W.cell? ⟨(ad.add (j * 6)).block, (ad.add (j * 6)).off + 1, none⟩ = some (.int .i64 x.f1) ∧ W.cell? ⟨(ad.add (j * 6)).block, (ad.add (j * 6)).off + 2, none⟩ = some (.int .i64 x.f2) ∧ W.cell? ⟨(ad.add (j * 6)).block, (ad.add (j * 6)).off + 3, none⟩ = some (.int .i64 x.f3) ∧ W.cell? ⟨(ad.add (j * 6)).block, (ad.add (j * 6)).off + 4, none⟩ = some (.string x.f4) ∧ W.cell? ⟨(ad.add (j * 6)).block, (ad.add (j * 6)).off + 5, none⟩ = some (.bool x.f5))) (by kernel_rfl) ⟨SWD.out.1, SWD.out.2.1, SWD.out.2.2.1, SWD.out.2.2.2.1, SWD.out.2.2.2.2.1, SWD.out.2.2.2.2.2.1, SWD.out.2.2.2.2.2.2.1, ⟨SWD.out.bel⟩, (PVH.out.below SWD.out.bel).1, (PVH.out.below SWD.out.bel).2.1, (PVH.out.below SWD.out.bel).2.2.1, (PVH.out.below SWD.out.bel).2.2.2.1, (PVH.out.below SWD.out.bel).2.2.2.2.1, (PVH.out.below SWD.out.bel).2.2.2.2.2⟩ (fun hHeld => ?_)
              refine wpAnyH_take (i := 0) (v := ?v0_48) rfl (by kernel_rfl) (by kernel_rfl) (by kernel_rfl) (fun _ _ _ h => h) (Or.inl ⟨by rfl, ?y0_48⟩) (by assumption) ?r0_48
              case y0_48 => (intro w hSw; (try dsimp only at hSw); (go_simp; (try with_reducible rfl)))
              (try simp only [Act.put, List.getElem_toArray, List.getElem_cons_succ, List.getElem_cons_zero, List.setIfInBounds_toArray, List.set_cons_zero, List.set_cons_succ])
              refine wpAnyH_take (i := 1) (v := ?v1_49) rfl (by kernel_rfl) (by kernel_rfl) (by kernel_rfl) (fun _ _ _ h => h) (Or.inl ⟨by rfl, ?y1_49⟩) (by assumption) ?r1_49
              case y1_49 => (intro w hSw; (try dsimp only at hSw); (go_simp; (try with_reducible rfl)))
              (try simp only [Act.put, List.getElem_toArray, List.getElem_cons_succ, List.getElem_cons_zero, List.setIfInBounds_toArray, List.set_cons_zero, List.set_cons_succ])
              refine wpAnyH_take (i := 2) (v := ?v2_50) rfl (by kernel_rfl) (by kernel_rfl) (by kernel_rfl) (fun _ _ _ h => h) (Or.inl ⟨by rfl, ?y2_50⟩) (by assumption) ?r2_50
              case y2_50 => (intro w hSw; (try dsimp only at hSw); (go_simp; (try with_reducible rfl)))
              (try simp only [Act.put, List.getElem_toArray, List.getElem_cons_succ, List.getElem_cons_zero, List.setIfInBounds_toArray, List.set_cons_zero, List.set_cons_succ])
              refine wpAnyH_take (i := 3) (v := ?v3_51) rfl (by kernel_rfl) (by kernel_rfl) (by kernel_rfl) (fun _ _ _ h => h) (Or.inl ⟨by rfl, ?y3_51⟩) (by assumption) ?r3_51
              case y3_51 => (intro w hSw; (try dsimp only at hSw); (go_simp; (try with_reducible rfl)))
              (try simp only [Act.put, List.getElem_toArray, List.getElem_cons_succ, List.getElem_cons_zero, List.setIfInBounds_toArray, List.set_cons_zero, List.set_cons_succ])
              refine wpAnyH_take (i := 4) (v := ?v4_52) rfl (by kernel_rfl) (by kernel_rfl) (by kernel_rfl) (fun _ _ _ h => h) (Or.inl ⟨by rfl, ?y4_52⟩) (by assumption) ?r4_52
              case y4_52 => (intro w hSw; (try dsimp only at hSw); (go_simp; (try with_reducible rfl)))
              (try simp only [Act.put, List.getElem_toArray, List.getElem_cons_succ, List.getElem_cons_zero, List.setIfInBounds_toArray, List.set_cons_zero, List.set_cons_succ])
              refine wpAnyH_take (i := 5) (v := ?v5_53) rfl (by kernel_rfl) (by kernel_rfl) (by kernel_rfl) (fun _ _ _ h => h) (Or.inl ⟨by rfl, ?y5_53⟩) (by assumption) ?r5_53
              case y5_53 => (intro w hSw; (try dsimp only at hSw); (go_simp; (try with_reducible rfl)))
              (try simp only [Act.put, List.getElem_toArray, List.getElem_cons_succ, List.getElem_cons_zero, List.setIfInBounds_toArray, List.set_cons_zero, List.set_cons_succ])
              refine wpAnyH_take (i := 6) (v := ?v6_54) rfl (by kernel_rfl) (by kernel_rfl) (by kernel_rfl) (fun _ _ _ h => h) (Or.inl ⟨by rfl, ?y6_54⟩) (by assumption) ?r6_54
              case y6_54 => (intro w hSw; (try dsimp only at hSw); (go_simp; (try with_reducible rfl)))
              (try simp only [Act.put, List.getElem_toArray, List.getElem_cons_succ, List.getElem_cons_zero, List.setIfInBounds_toArray, List.set_cons_zero, List.set_cons_succ])
              refine wpAnyH_take (i := 7) (v := ?v7_55) rfl (by kernel_rfl) (by kernel_rfl) (by kernel_rfl) (fun _ _ _ h => h) (Or.inl ⟨by rfl, ?y7_55⟩) (by assumption) ?r7_55
              case y7_55 => (intro w hSw; (try dsimp only at hSw); (go_simp; (try with_reducible rfl)))
              (try simp only [Act.put, List.getElem_toArray, List.getElem_cons_succ, List.getElem_cons_zero, List.setIfInBounds_toArray, List.set_cons_zero, List.set_cons_succ])
              refine wpAnyH_take (i := 8) (v := ?v8_56) rfl (by kernel_rfl) (by kernel_rfl) (by kernel_rfl) (fun _ _ _ h => h) (Or.inl ⟨by rfl, ?y8_56⟩) (by assumption) ?r8_56
              case y8_56 => (intro w hSw; (try dsimp only at hSw); (go_simp; (try with_reducible rfl)))
              (try simp only [Act.put, List.getElem_toArray, List.getElem_cons_succ, List.getElem_cons_zero, List.setIfInBounds_toArray, List.set_cons_zero, List.set_cons_succ])
              refine wpAnyH_take (i := 10) (v := ?v10_57) rfl (by kernel_rfl) (by kernel_rfl) (by kernel_rfl) (fun _ _ _ h => h) (Or.inl ⟨by rfl, ?y10_57⟩) (by assumption) ?r10_57
              case y10_57 => (intro w hSw; (try dsimp only at hSw); (go_simp; (try with_reducible rfl)))
              (try simp only [Act.put, List.getElem_toArray, List.getElem_cons_succ, List.getElem_cons_zero, List.setIfInBounds_toArray, List.set_cons_zero, List.set_cons_succ])
              refine wpAnyH_ready (rs := [9]) (by kernel_rfl) (by simp) ?_
              refine AllReadyH.cons rfl (fun K hK => ?_) AllReadyH.nil
              go_simp
              go_at_call 47
              refine (impl_Atom_id.calls x.f0 x.f1 x.f2 x.f3 x.f4 x.f5 x.f0 x.f1 _ rfl).mono ?_
              rintro e w5 ⟨rfl, hb5⟩
              have TA := Aside0.mk (SWD.out.step hb5)
              clear hb5
              (try dsimp only)
              refine hK.out _ _ ⟨TA.out.1, TA.out.2.1, TA.out.2.2.1, TA.out.2.2.2.1, TA.out.2.2.2.2.1, TA.out.2.2.2.2.2.1, TA.out.2.2.2.2.2.2.1, ⟨TA.out.bel⟩, (PVH.out.below TA.out.bel).1, (PVH.out.below TA.out.bel).2.1, (PVH.out.below TA.out.bel).2.2.1, (PVH.out.below TA.out.bel).2.2.2.1, (PVH.out.below TA.out.bel).2.2.2.2.1, (PVH.out.below TA.out.bel).2.2.2.2.2⟩ (fun hHeld2 => ?_)
              clear hK K
              (try simp only [Act.put, List.getElem_toArray, List.getElem_cons_succ, List.getElem_cons_zero, List.setIfInBounds_toArray, List.set_cons_zero, List.set_cons_succ])
              refine wpAnyH_ready (rs := [11]) (by kernel_rfl) (by simp) ?_
              refine AllReadyH.cons rfl (fun K hK => ?_) AllReadyH.nil
              go_simp
              go_at_call 47
              refine (impl_Atom_id.calls y.f0 y.f1 y.f2 y.f3 y.f4 y.f5 y.f0 y.f1 _ rfl).mono ?_
              rintro e w5 ⟨rfl, hb5⟩
              have TB := Aside0.mk (TA.out.step hb5)
              clear hb5
              (try dsimp only)
              refine hK.out _ _ ⟨TB.out.1, TB.out.2.1, TB.out.2.2.1, TB.out.2.2.2.1, TB.out.2.2.2.2.1, TB.out.2.2.2.2.2.1, TB.out.2.2.2.2.2.2.1, ⟨TB.out.bel⟩, (PVH.out.below TB.out.bel).1, (PVH.out.below TB.out.bel).2.1, (PVH.out.below TB.out.bel).2.2.1, (PVH.out.below TB.out.bel).2.2.2.1, (PVH.out.below TB.out.bel).2.2.2.2.1, (PVH.out.below TB.out.bel).2.2.2.2.2⟩ (fun hHeld2 => ?_)
              clear hK K
              (try simp only [Act.put, List.getElem_toArray, List.getElem_cons_succ, List.getElem_cons_zero, List.setIfInBounds_toArray, List.set_cons_zero, List.set_cons_succ])
              refine wpAnyH_ready (rs := [12]) (by kernel_rfl) (by simp) ?_
              refine AllReadyH.cons rfl (fun K hK => ?_) AllReadyH.nil
              go_simp
              go_at_call 48
              refine (impl_id_before.calls x.f0 x.f1 y.f0 y.f1 false _ HBF.out).mono ?_
              rintro e w5 ⟨rfl, hb5⟩
              have TC := Aside0.mk (TB.out.step hb5)
              clear hb5
              (try dsimp only)
              refine hK.out _ _ ⟨TC.out.1, TC.out.2.1, TC.out.2.2.1, TC.out.2.2.2.1, TC.out.2.2.2.2.1, TC.out.2.2.2.2.2.1, TC.out.2.2.2.2.2.2.1, ⟨TC.out.bel⟩, (PVH.out.below TC.out.bel).1, (PVH.out.below TC.out.bel).2.1, (PVH.out.below TC.out.bel).2.2.1, (PVH.out.below TC.out.bel).2.2.2.1, (PVH.out.below TC.out.bel).2.2.2.2.1, (PVH.out.below TC.out.bel).2.2.2.2.2⟩ (fun hHeld2 => ?_)
              clear hK K
              (try simp only [Act.put, List.getElem_toArray, List.getElem_cons_succ, List.getElem_cons_zero, List.setIfInBounds_toArray, List.set_cons_zero, List.set_cons_succ])
              refine wpAnyH_take (i := 13) (v := ?v13_58) rfl (by kernel_rfl) (by kernel_rfl) (by kernel_rfl) (fun _ _ _ h => h) (Or.inl ⟨by rfl, ?y13_58⟩) (by assumption) ?r13_58
              case y13_58 => (intro w hSw; (try dsimp only at hSw); (go_simp; (try with_reducible rfl)))
              (try simp only [Act.put, List.getElem_toArray, List.getElem_cons_succ, List.getElem_cons_zero, List.setIfInBounds_toArray, List.set_cons_zero, List.set_cons_succ])
              refine wpAnyH_take (i := 14) (v := ?v14_59) rfl (by kernel_rfl) (by kernel_rfl) (by kernel_rfl) (fun _ _ _ h => h) (Or.inl ⟨by rfl, ?y14_59⟩) (by assumption) ?r14_59
              case y14_59 => (intro w hSw; (try dsimp only at hSw); (go_simp; (try with_reducible rfl)))
              (try simp only [Act.put, List.getElem_toArray, List.getElem_cons_succ, List.getElem_cons_zero, List.setIfInBounds_toArray, List.set_cons_zero, List.set_cons_succ])
              refine wpAnyH_take (i := 15) (v := ?v15_60) rfl (by kernel_rfl) (by kernel_rfl) (by kernel_rfl) (fun _ _ _ h => h) (Or.inl ⟨by rfl, ?y15_60⟩) (by assumption) ?r15_60
              case y15_60 => (intro w hSw; (try dsimp only at hSw); (go_simp; (try with_reducible rfl)))
              (try simp only [Act.put, List.getElem_toArray, List.getElem_cons_succ, List.getElem_cons_zero, List.setIfInBounds_toArray, List.set_cons_zero, List.set_cons_succ])
              refine wpAnyH_take (i := 16) (v := undef) rfl (by kernel_rfl) (by kernel_rfl) (by kernel_rfl) (fun _ _ _ h => h) (Or.inr ⟨by rfl, rfl⟩) (by assumption) ?_
              (try simp only [Act.put, List.getElem_toArray, List.getElem_cons_succ, List.getElem_cons_zero, List.setIfInBounds_toArray, List.set_cons_zero, List.set_cons_succ])
              refine wpAnyH_take (i := 17) (v := undef) rfl (by kernel_rfl) (by kernel_rfl) (by kernel_rfl) (fun _ _ _ h => h) (Or.inr ⟨by rfl, rfl⟩) (by assumption) ?_
              (try simp only [Act.put, List.getElem_toArray, List.getElem_cons_succ, List.getElem_cons_zero, List.setIfInBounds_toArray, List.set_cons_zero, List.set_cons_succ])
              refine wpAnyH_take (i := 18) (v := undef) rfl (by kernel_rfl) (by kernel_rfl) (by kernel_rfl) (fun _ _ _ h => h) (Or.inr ⟨by rfl, rfl⟩) (by assumption) ?_
              (try simp only [Act.put, List.getElem_toArray, List.getElem_cons_succ, List.getElem_cons_zero, List.setIfInBounds_toArray, List.set_cons_zero, List.set_cons_succ])
              refine wpAnyH_take (i := 19) (v := undef) rfl (by kernel_rfl) (by kernel_rfl) (by kernel_rfl) (fun _ _ _ h => h) (Or.inr ⟨by rfl, rfl⟩) (by assumption) ?_
              (try simp only [Act.put, List.getElem_toArray, List.getElem_cons_succ, List.getElem_cons_zero, List.setIfInBounds_toArray, List.set_cons_zero, List.set_cons_succ])
              refine wpAnyH_take (i := 20) (v := undef) rfl (by kernel_rfl) (by kernel_rfl) (by kernel_rfl) (fun _ _ _ h => h) (Or.inr ⟨by rfl, rfl⟩) (by assumption) ?_
              (try simp only [Act.put, List.getElem_toArray, List.getElem_cons_succ, List.getElem_cons_zero, List.setIfInBounds_toArray, List.set_cons_zero, List.set_cons_succ])
              refine wpAnyH_take (i := 21) (v := ?v21_61) rfl (by kernel_rfl) (by kernel_rfl) (by kernel_rfl) (fun _ _ _ h => h) (Or.inl ⟨by rfl, ?y21_61⟩) (by assumption) ?r21_61
              case y21_61 => (intro w hSw; (try dsimp only at hSw); (go_simp; (try with_reducible rfl)))
              (try simp only [Act.put, List.getElem_toArray, List.getElem_cons_succ, List.getElem_cons_zero, List.setIfInBounds_toArray, List.set_cons_zero, List.set_cons_succ])
              refine wpAnyH_take (i := 22) (v := ?v22_62) rfl (by kernel_rfl) (by kernel_rfl) (by kernel_rfl) (fun _ _ _ h => h) (Or.inl ⟨by rfl, ?y22_62⟩) (by assumption) ?r22_62
              case y22_62 => (intro w hSw; (try dsimp only at hSw); (go_simp; (try with_reducible rfl)))
              (try simp only [Act.put, List.getElem_toArray, List.getElem_cons_succ, List.getElem_cons_zero, List.setIfInBounds_toArray, List.set_cons_zero, List.set_cons_succ])
              refine wpAnyH_take (i := 23) (v := undef) rfl (by kernel_rfl) (by kernel_rfl) (by kernel_rfl) (fun _ _ _ h => h) (Or.inr ⟨by rfl, rfl⟩) (by assumption) ?_
              (try simp only [Act.put, List.getElem_toArray, List.getElem_cons_succ, List.getElem_cons_zero, List.setIfInBounds_toArray, List.set_cons_zero, List.set_cons_succ])
              refine wpAnyH_take (i := 24) (v := undef) rfl (by kernel_rfl) (by kernel_rfl) (by kernel_rfl) (fun _ _ _ h => h) (Or.inr ⟨by rfl, rfl⟩) (by assumption) ?_
              (try simp only [Act.put, List.getElem_toArray, List.getElem_cons_succ, List.getElem_cons_zero, List.setIfInBounds_toArray, List.set_cons_zero, List.set_cons_succ])
              refine wpAnyH_take (i := 25) (v := undef) rfl (by kernel_rfl) (by kernel_rfl) (by kernel_rfl) (fun _ _ _ h => h) (Or.inr ⟨by rfl, rfl⟩) (by assumption) ?_
              (try simp only [Act.put, List.getElem_toArray, List.getElem_cons_succ, List.getElem_cons_zero, List.setIfInBounds_toArray, List.set_cons_zero, List.set_cons_succ])
              refine wpAnyH_take (i := 26) (v := undef) rfl (by kernel_rfl) (by kernel_rfl) (by kernel_rfl) (fun _ _ _ h => h) (Or.inr ⟨by rfl, rfl⟩) (by assumption) ?_
              (try simp only [Act.put, List.getElem_toArray, List.getElem_cons_succ, List.getElem_cons_zero, List.setIfInBounds_toArray, List.set_cons_zero, List.set_cons_succ])
              refine wpAnyH_take (i := 27) (v := undef) rfl (by kernel_rfl) (by kernel_rfl) (by kernel_rfl) (fun _ _ _ h => h) (Or.inr ⟨by rfl, rfl⟩) (by assumption) ?_
              (try simp only [Act.put, List.getElem_toArray, List.getElem_cons_succ, List.getElem_cons_zero, List.setIfInBounds_toArray, List.set_cons_zero, List.set_cons_succ])
              refine wpAnyH_take (i := 28) (v := ?v28_63) rfl (by kernel_rfl) (by kernel_rfl) (by kernel_rfl) (fun _ _ _ h => h) (Or.inl ⟨by rfl, ?y28_63⟩) (by assumption) ?r28_63
              case y28_63 => (intro w hSw; (try dsimp only at hSw); (go_simp; (try with_reducible rfl)))
              (try simp only [Act.put, List.getElem_toArray, List.getElem_cons_succ, List.getElem_cons_zero, List.setIfInBounds_toArray, List.set_cons_zero, List.set_cons_succ])
              refine wpAnyH_done (by kernel_rfl) ?_ _
              go_wp2
              go_ret
              exact ⟨by rw [HF.out]; rfl, below_step BW.out TC.out.bel⟩
            | true =>
              rw [hbf] at hbv OK2
              rw [Bool.true_and] at OK2
              have HBF := Aside0.mk hbv
              clear hbv hbf
              by_cases hge : y.f0 ≤ y.f2
              · have HF : Aside0 (fromB (atomI l) l 0 = false) := ⟨by rw [OK2]; simp [show ¬ y.f2 < y.f0 by omega]⟩
                clear OK2 HLK
                have hwj := HWJ.out
                refine wp_region_held_drew (S := (fun W => W.cell? ⟨gs, 0, none⟩ = some (.slice (some ad) l.length c) ∧ W.cell? ⟨ga, 0, none⟩ = some (.int .i64 y.f0) ∧ W.cell? ⟨ga, 1, none⟩ = some (.int .i64 y.f1) ∧ W.cell? ⟨ga, 2, none⟩ = some (.int .i64 y.f2) ∧ W.cell? ⟨ga, 3, none⟩ = some (.int .i64 y.f3) ∧ W.cell? ⟨ga, 4, none⟩ = some (.string y.f4) ∧ W.cell? ⟨ga, 5, none⟩ = some (.bool y.f5) ∧ Aside0 (Below wr.heap.size wr W) ∧ W.cell? (ad.add (j * 6)) = some (.int .i64 x.f0) ∧ W.cell? ⟨(ad.add (j * 6)).block, (ad.add (j * 6)).off + 1, none⟩ = some (.int .i64 x.f1) ∧ W.cell? ⟨(ad.add (j * 6)).block, (ad.add (j * 6)).off + 2, none⟩ = some (.int .i64 x.f2) ∧ W.cell? ⟨(ad.add (j * 6)).block, (ad.add (j * 6)).off + 3, none⟩ = some (.int .i64 x.f3) ∧ W.cell? ⟨(ad.add (j * 6)).block, (ad.add (j * 6)).off + 4, none⟩ = some (.string x.f4) ∧ W.cell? ⟨(ad.add (j * 6)).block, (ad.add (j * 6)).off + 5, none⟩ = some (.bool x.f5))) (by kernel_rfl) ⟨SWD.out.1, SWD.out.2.1, SWD.out.2.2.1, SWD.out.2.2.2.1, SWD.out.2.2.2.2.1, SWD.out.2.2.2.2.2.1, SWD.out.2.2.2.2.2.2.1, ⟨SWD.out.bel⟩, (PVH.out.below SWD.out.bel).1, (PVH.out.below SWD.out.bel).2.1, (PVH.out.below SWD.out.bel).2.2.1, (PVH.out.below SWD.out.bel).2.2.2.1, (PVH.out.below SWD.out.bel).2.2.2.2.1, (PVH.out.below SWD.out.bel).2.2.2.2.2⟩ (fun hHeld => ?_)
                refine wpAnyH_take (i := 0) (v := ?v0_64) rfl (by kernel_rfl) (by kernel_rfl) (by kernel_rfl) (fun _ _ _ h => h) (Or.inl ⟨by rfl, ?y0_64⟩) (by assumption) ?r0_64
                case y0_64 => (intro w hSw; (try dsimp only at hSw); (go_simp; (try with_reducible rfl)))
                (try simp only [Act.put, List.getElem_toArray, List.getElem_cons_succ, List.getElem_cons_zero, List.setIfInBounds_toArray, List.set_cons_zero, List.set_cons_succ])
                refine wpAnyH_take (i := 1) (v := ?v1_65) rfl (by kernel_rfl) (by kernel_rfl) (by kernel_rfl) (fun _ _ _ h => h) (Or.inl ⟨by rfl, ?y1_65⟩) (by assumption) ?r1_65
                case y1_65 => (intro w hSw; (try dsimp only at hSw); (go_simp; (try with_reducible rfl)))
                (try simp only [Act.put, List.getElem_toArray, List.getElem_cons_succ, List.getElem_cons_zero, List.setIfInBounds_toArray, List.set_cons_zero, List.set_cons_succ])
                refine wpAnyH_take (i := 2) (v := ?v2_66) rfl (by kernel_rfl) (by kernel_rfl) (by kernel_rfl) (fun _ _ _ h => h) (Or.inl ⟨by rfl, ?y2_66⟩) (by assumption) ?r2_66
                case y2_66 => (intro w hSw; (try dsimp only at hSw); (go_simp; (try with_reducible rfl)))
                (try simp only [Act.put, List.getElem_toArray, List.getElem_cons_succ, List.getElem_cons_zero, List.setIfInBounds_toArray, List.set_cons_zero, List.set_cons_succ])
                refine wpAnyH_take (i := 3) (v := ?v3_67) rfl (by kernel_rfl) (by kernel_rfl) (by kernel_rfl) (fun _ _ _ h => h) (Or.inl ⟨by rfl, ?y3_67⟩) (by assumption) ?r3_67
                case y3_67 => (intro w hSw; (try dsimp only at hSw); (go_simp; (try with_reducible rfl)))
                (try simp only [Act.put, List.getElem_toArray, List.getElem_cons_succ, List.getElem_cons_zero, List.setIfInBounds_toArray, List.set_cons_zero, List.set_cons_succ])
                refine wpAnyH_take (i := 4) (v := ?v4_68) rfl (by kernel_rfl) (by kernel_rfl) (by kernel_rfl) (fun _ _ _ h => h) (Or.inl ⟨by rfl, ?y4_68⟩) (by assumption) ?r4_68
                case y4_68 => (intro w hSw; (try dsimp only at hSw); (go_simp; (try with_reducible rfl)))
                (try simp only [Act.put, List.getElem_toArray, List.getElem_cons_succ, List.getElem_cons_zero, List.setIfInBounds_toArray, List.set_cons_zero, List.set_cons_succ])
                refine wpAnyH_take (i := 5) (v := ?v5_69) rfl (by kernel_rfl) (by kernel_rfl) (by kernel_rfl) (fun _ _ _ h => h) (Or.inl ⟨by rfl, ?y5_69⟩) (by assumption) ?r5_69
                case y5_69 => (intro w hSw; (try dsimp only at hSw); (go_simp; (try with_reducible rfl)))
                (try simp only [Act.put, List.getElem_toArray, List.getElem_cons_succ, List.getElem_cons_zero, List.setIfInBounds_toArray, List.set_cons_zero, List.set_cons_succ])
                refine wpAnyH_take (i := 6) (v := ?v6_70) rfl (by kernel_rfl) (by kernel_rfl) (by kernel_rfl) (fun _ _ _ h => h) (Or.inl ⟨by rfl, ?y6_70⟩) (by assumption) ?r6_70
                case y6_70 => (intro w hSw; (try dsimp only at hSw); (go_simp; (try with_reducible rfl)))
                (try simp only [Act.put, List.getElem_toArray, List.getElem_cons_succ, List.getElem_cons_zero, List.setIfInBounds_toArray, List.set_cons_zero, List.set_cons_succ])
                refine wpAnyH_take (i := 7) (v := ?v7_71) rfl (by kernel_rfl) (by kernel_rfl) (by kernel_rfl) (fun _ _ _ h => h) (Or.inl ⟨by rfl, ?y7_71⟩) (by assumption) ?r7_71
                case y7_71 => (intro w hSw; (try dsimp only at hSw); (go_simp; (try with_reducible rfl)))
                (try simp only [Act.put, List.getElem_toArray, List.getElem_cons_succ, List.getElem_cons_zero, List.setIfInBounds_toArray, List.set_cons_zero, List.set_cons_succ])
                refine wpAnyH_take (i := 8) (v := ?v8_72) rfl (by kernel_rfl) (by kernel_rfl) (by kernel_rfl) (fun _ _ _ h => h) (Or.inl ⟨by rfl, ?y8_72⟩) (by assumption) ?r8_72
                case y8_72 => (intro w hSw; (try dsimp only at hSw); (go_simp; (try with_reducible rfl)))
                (try simp only [Act.put, List.getElem_toArray, List.getElem_cons_succ, List.getElem_cons_zero, List.setIfInBounds_toArray, List.set_cons_zero, List.set_cons_succ])
                refine wpAnyH_take (i := 10) (v := ?v10_73) rfl (by kernel_rfl) (by kernel_rfl) (by kernel_rfl) (fun _ _ _ h => h) (Or.inl ⟨by rfl, ?y10_73⟩) (by assumption) ?r10_73
                case y10_73 => (intro w hSw; (try dsimp only at hSw); (go_simp; (try with_reducible rfl)))
                (try simp only [Act.put, List.getElem_toArray, List.getElem_cons_succ, List.getElem_cons_zero, List.setIfInBounds_toArray, List.set_cons_zero, List.set_cons_succ])
                refine wpAnyH_ready (rs := [9]) (by kernel_rfl) (by simp) ?_
                refine AllReadyH.cons rfl (fun K hK => ?_) AllReadyH.nil
                go_simp
                go_at_call 47
                refine (impl_Atom_id.calls x.f0 x.f1 x.f2 x.f3 x.f4 x.f5 x.f0 x.f1 _ rfl).mono ?_
                rintro e w5 ⟨rfl, hb5⟩
                have TA := Aside0.mk (SWD.out.step hb5)
                clear hb5
                (try dsimp only)
                refine hK.out _ _ ⟨TA.out.1, TA.out.2.1, TA.out.2.2.1, TA.out.2.2.2.1, TA.out.2.2.2.2.1, TA.out.2.2.2.2.2.1, TA.out.2.2.2.2.2.2.1, ⟨TA.out.bel⟩, (PVH.out.below TA.out.bel).1, (PVH.out.below TA.out.bel).2.1, (PVH.out.below TA.out.bel).2.2.1, (PVH.out.below TA.out.bel).2.2.2.1, (PVH.out.below TA.out.bel).2.2.2.2.1, (PVH.out.below TA.out.bel).2.2.2.2.2⟩ (fun hHeld2 => ?_)
                clear hK K
                (try simp only [Act.put, List.getElem_toArray, List.getElem_cons_succ, List.getElem_cons_zero, List.setIfInBounds_toArray, List.set_cons_zero, List.set_cons_succ])
                refine wpAnyH_ready (rs := [11]) (by kernel_rfl) (by simp) ?_
                refine AllReadyH.cons rfl (fun K hK => ?_) AllReadyH.nil
                go_simp
                go_at_call 47
                refine (impl_Atom_id.calls y.f0 y.f1 y.f2 y.f3 y.f4 y.f5 y.f0 y.f1 _ rfl).mono ?_
                rintro e w5 ⟨rfl, hb5⟩
                have TB := Aside0.mk (TA.out.step hb5)
                clear hb5
                (try dsimp only)
                refine hK.out _ _ ⟨TB.out.1, TB.out.2.1, TB.out.2.2.1, TB.out.2.2.2.1, TB.out.2.2.2.2.1, TB.out.2.2.2.2.2.1, TB.out.2.2.2.2.2.2.1, ⟨TB.out.bel⟩, (PVH.out.below TB.out.bel).1, (PVH.out.below TB.out.bel).2.1, (PVH.out.below TB.out.bel).2.2.1, (PVH.out.below TB.out.bel).2.2.2.1, (PVH.out.below TB.out.bel).2.2.2.2.1, (PVH.out.below TB.out.bel).2.2.2.2.2⟩ (fun hHeld2 => ?_)
                clear hK K
                (try simp only [Act.put, List.getElem_toArray, List.getElem_cons_succ, List.getElem_cons_zero, List.setIfInBounds_toArray, List.set_cons_zero, List.set_cons_succ])
                refine wpAnyH_ready (rs := [12]) (by kernel_rfl) (by simp) ?_
                refine AllReadyH.cons rfl (fun K hK => ?_) AllReadyH.nil
                go_simp
                go_at_call 48
                refine (impl_id_before.calls x.f0 x.f1 y.f0 y.f1 true _ HBF.out).mono ?_
                rintro e w5 ⟨rfl, hb5⟩
                have TC := Aside0.mk (TB.out.step hb5)
                clear hb5
                (try dsimp only)
                refine hK.out _ _ ⟨TC.out.1, TC.out.2.1, TC.out.2.2.1, TC.out.2.2.2.1, TC.out.2.2.2.2.1, TC.out.2.2.2.2.2.1, TC.out.2.2.2.2.2.2.1, ⟨TC.out.bel⟩, (PVH.out.below TC.out.bel).1, (PVH.out.below TC.out.bel).2.1, (PVH.out.below TC.out.bel).2.2.1, (PVH.out.below TC.out.bel).2.2.2.1, (PVH.out.below TC.out.bel).2.2.2.2.1, (PVH.out.below TC.out.bel).2.2.2.2.2⟩ (fun hHeld2 => ?_)
                clear hK K
                (try simp only [Act.put, List.getElem_toArray, List.getElem_cons_succ, List.getElem_cons_zero, List.setIfInBounds_toArray, List.set_cons_zero, List.set_cons_succ])
                refine wpAnyH_take (i := 13) (v := ?v13_74) rfl (by kernel_rfl) (by kernel_rfl) (by kernel_rfl) (fun _ _ _ h => h) (Or.inl ⟨by rfl, ?y13_74⟩) (by assumption) ?r13_74
                case y13_74 => (intro w hSw; (try dsimp only at hSw); (go_simp; (try with_reducible rfl)))
                (try simp only [Act.put, List.getElem_toArray, List.getElem_cons_succ, List.getElem_cons_zero, List.setIfInBounds_toArray, List.set_cons_zero, List.set_cons_succ])
                refine wpAnyH_take (i := 14) (v := ?v14_75) rfl (by kernel_rfl) (by kernel_rfl) (by kernel_rfl) (fun _ _ _ h => h) (Or.inl ⟨by rfl, ?y14_75⟩) (by assumption) ?r14_75
                case y14_75 => (intro w hSw; (try dsimp only at hSw); (go_simp; (try with_reducible rfl)))
                (try simp only [Act.put, List.getElem_toArray, List.getElem_cons_succ, List.getElem_cons_zero, List.setIfInBounds_toArray, List.set_cons_zero, List.set_cons_succ])
                refine wpAnyH_take (i := 15) (v := ?v15_76) rfl (by kernel_rfl) (by kernel_rfl) (by kernel_rfl) (fun _ _ _ h => h) (Or.inl ⟨by rfl, ?y15_76⟩) (by assumption) ?r15_76
                case y15_76 => (intro w hSw; (try dsimp only at hSw); (go_simp; (try with_reducible rfl)))
                (try simp only [Act.put, List.getElem_toArray, List.getElem_cons_succ, List.getElem_cons_zero, List.setIfInBounds_toArray, List.set_cons_zero, List.set_cons_succ])
                refine wpAnyH_take (i := 16) (v := ?v16_77) rfl (by kernel_rfl) (by kernel_rfl) (by kernel_rfl) (fun _ _ _ h => h) (Or.inl ⟨by rfl, ?y16_77⟩) (by assumption) ?r16_77
                case y16_77 => (intro w hSw; (try dsimp only at hSw); (go_simp; (try with_reducible rfl)))
                (try simp only [Act.put, List.getElem_toArray, List.getElem_cons_succ, List.getElem_cons_zero, List.setIfInBounds_toArray, List.set_cons_zero, List.set_cons_succ])
                refine wpAnyH_take (i := 17) (v := ?v17_78) rfl (by kernel_rfl) (by kernel_rfl) (by kernel_rfl) (fun _ _ _ h => h) (Or.inl ⟨by rfl, ?y17_78⟩) (by assumption) ?r17_78
                case y17_78 => (intro w hSw; (try dsimp only at hSw); (go_simp; (try with_reducible rfl)))
                (try simp only [Act.put, List.getElem_toArray, List.getElem_cons_succ, List.getElem_cons_zero, List.setIfInBounds_toArray, List.set_cons_zero, List.set_cons_succ])
                refine wpAnyH_take (i := 18) (v := ?v18_79) rfl (by kernel_rfl) (by kernel_rfl) (by kernel_rfl) (fun _ _ _ h => h) (Or.inl ⟨by rfl, ?y18_79⟩) (by assumption) ?r18_79
                case y18_79 => (intro w hSw; (try dsimp only at hSw); (go_simp; (try with_reducible rfl)))
                (try simp only [Act.put, List.getElem_toArray, List.getElem_cons_succ, List.getElem_cons_zero, List.setIfInBounds_toArray, List.set_cons_zero, List.set_cons_succ])
                refine wpAnyH_take (i := 19) (v := ?v19_80) rfl (by kernel_rfl) (by kernel_rfl) (by kernel_rfl) (fun _ _ _ h => h) (Or.inl ⟨by rfl, ?y19_80⟩) (by assumption) ?r19_80
                case y19_80 => (intro w hSw; (try dsimp only at hSw); (go_simp; (try with_reducible rfl)))
                (try simp only [Act.put, List.getElem_toArray, List.getElem_cons_succ, List.getElem_cons_zero, List.setIfInBounds_toArray, List.set_cons_zero, List.set_cons_succ])
                refine wpAnyH_take (i := 20) (v := ?v20_81) rfl (by kernel_rfl) (by kernel_rfl) (by kernel_rfl) (fun _ _ _ h => h) (Or.inl ⟨by rfl, ?y20_81⟩) (by assumption) ?r20_81
                case y20_81 => (intro w hSw; (try dsimp only at hSw); (go_simp; (try with_reducible rfl)))
                (try simp only [Act.put, List.getElem_toArray, List.getElem_cons_succ, List.getElem_cons_zero, List.setIfInBounds_toArray, List.set_cons_zero, List.set_cons_succ])
                refine wpAnyH_take (i := 21) (v := ?v21_82) rfl (by kernel_rfl) (by kernel_rfl) (by kernel_rfl) (fun _ _ _ h => h) (Or.inl ⟨by rfl, ?y21_82⟩) (by assumption) ?r21_82
                case y21_82 => (intro w hSw; (try dsimp only at hSw); (go_simp; (try with_reducible rfl)))
                (try simp only [Act.put, List.getElem_toArray, List.getElem_cons_succ, List.getElem_cons_zero, List.setIfInBounds_toArray, List.set_cons_zero, List.set_cons_succ])
                refine wpAnyH_take (i := 22) (v := ?v22_83) rfl (by kernel_rfl) (by kernel_rfl) (by kernel_rfl) (fun _ _ _ h => h) (Or.inl ⟨by rfl, ?y22_83⟩) (by assumption) ?r22_83
                case y22_83 => (intro w hSw; (try dsimp only at hSw); (go_simp; (try with_reducible rfl)))
                (try simp only [Act.put, List.getElem_toArray, List.getElem_cons_succ, List.getElem_cons_zero, List.setIfInBounds_toArray, List.set_cons_zero, List.set_cons_succ])
                refine wpAnyH_take (i := 23) (v := undef) rfl (by kernel_rfl) (by kernel_rfl) (by kernel_rfl) (fun _ _ _ h => h) (Or.inr ⟨by rfl, rfl⟩) (by assumption) ?_
                (try simp only [Act.put, List.getElem_toArray, List.getElem_cons_succ, List.getElem_cons_zero, List.setIfInBounds_toArray, List.set_cons_zero, List.set_cons_succ])
                refine wpAnyH_take (i := 24) (v := undef) rfl (by kernel_rfl) (by kernel_rfl) (by kernel_rfl) (fun _ _ _ h => h) (Or.inr ⟨by rfl, rfl⟩) (by assumption) ?_
                (try simp only [Act.put, List.getElem_toArray, List.getElem_cons_succ, List.getElem_cons_zero, List.setIfInBounds_toArray, List.set_cons_zero, List.set_cons_succ])
                refine wpAnyH_take (i := 25) (v := undef) rfl (by kernel_rfl) (by kernel_rfl) (by kernel_rfl) (fun _ _ _ h => h) (Or.inr ⟨by rfl, rfl⟩) (by assumption) ?_
                (try simp only [Act.put, List.getElem_toArray, List.getElem_cons_succ, List.getElem_cons_zero, List.setIfInBounds_toArray, List.set_cons_zero, List.set_cons_succ])
                refine wpAnyH_take (i := 26) (v := undef) rfl (by kernel_rfl) (by kernel_rfl) (by kernel_rfl) (fun _ _ _ h => h) (Or.inr ⟨by rfl, rfl⟩) (by assumption) ?_
                (try simp only [Act.put, List.getElem_toArray, List.getElem_cons_succ, List.getElem_cons_zero, List.setIfInBounds_toArray, List.set_cons_zero, List.set_cons_succ])
                refine wpAnyH_take (i := 27) (v := undef) rfl (by kernel_rfl) (by kernel_rfl) (by kernel_rfl) (fun _ _ _ h => h) (Or.inr ⟨by rfl, rfl⟩) (by assumption) ?_
                (try simp only [Act.put, List.getElem_toArray, List.getElem_cons_succ, List.getElem_cons_zero, List.setIfInBounds_toArray, List.set_cons_zero, List.set_cons_succ])
                refine wpAnyH_take (i := 28) (v := ?v28_84) rfl (by kernel_rfl) (by kernel_rfl) (by kernel_rfl) (fun _ _ _ h => h) (Or.inl ⟨by rfl, ?y28_84⟩) (by assumption) ?r28_84
                case y28_84 => (intro w hSw; (try dsimp only at hSw); (go_simp; (try with_reducible rfl)))
                (try simp only [Act.put, List.getElem_toArray, List.getElem_cons_succ, List.getElem_cons_zero, List.setIfInBounds_toArray, List.set_cons_zero, List.set_cons_succ])
                refine wpAnyH_done (by kernel_rfl) ?_ _
                go_wp2
                go_ret
                exact ⟨by rw [HF.out]; rfl, below_step BW.out TC.out.bel⟩
              · have hge2 : y.f2 < y.f0 := by omega
                rw [decide_eq_true hge2, Bool.true_and] at OK2
                have hge3 : decide (y.f0 ≤ y.f2) = false := decide_eq_false (by omega)
                clear hge
                cases hth : thereB (l.take (j + 1)) y.f2 y.f3 with
                | false =>
                  rw [hth] at HLK OK2
                  have HF : Aside0 (fromB (atomI l) l 0 = false) := ⟨by rw [OK2]; rfl⟩
                  clear OK2 hth
                  have hwj := HWJ.out
                  refine wp_region_held_drew (S := (fun W => W.cell? ⟨gs, 0, none⟩ = some (.slice (some ad) l.length c) ∧ W.cell? ⟨ga, 0, none⟩ = some (.int .i64 y.f0) ∧ W.cell? ⟨ga, 1, none⟩ = some (.int .i64 y.f1) ∧ W.cell? ⟨ga, 2, none⟩ = some (.int .i64 y.f2) ∧ W.cell? ⟨ga, 3, none⟩ = some (.int .i64 y.f3) ∧ W.cell? ⟨ga, 4, none⟩ = some (.string y.f4) ∧ W.cell? ⟨ga, 5, none⟩ = some (.bool y.f5) ∧ Aside0 (Below wr.heap.size wr W) ∧ W.cell? (ad.add (j * 6)) = some (.int .i64 x.f0) ∧ W.cell? ⟨(ad.add (j * 6)).block, (ad.add (j * 6)).off + 1, none⟩ = some (.int .i64 x.f1) ∧ W.cell? ⟨(ad.add (j * 6)).block, (ad.add (j * 6)).off + 2, none⟩ = some (.int .i64 x.f2) ∧ W.cell? ⟨(ad.add (j * 6)).block, (ad.add (j * 6)).off + 3, none⟩ = some (.int .i64 x.f3) ∧ W.cell? ⟨(ad.add (j * 6)).block, (ad.add (j * 6)).off + 4, none⟩ = some (.string x.f4) ∧ W.cell? ⟨(ad.add (j * 6)).block, (ad.add (j * 6)).off + 5, none⟩ = some (.bool x.f5))) (by kernel_rfl) ⟨SWD.out.1, SWD.out.2.1, SWD.out.2.2.1, SWD.out.2.2.2.1, SWD.out.2.2.2.2.1, SWD.out.2.2.2.2.2.1, SWD.out.2.2.2.2.2.2.1, ⟨SWD.out.bel⟩, (PVH.out.below SWD.out.bel).1, (PVH.out.below SWD.out.bel).2.1, (PVH.out.below SWD.out.bel).2.2.1, (PVH.out.below SWD.out.bel).2.2.2.1, (PVH.out.below SWD.out.bel).2.2.2.2.1, (PVH.out.below SWD.out.bel).2.2.2.2.2⟩ (fun hHeld => ?_)
                  refine wpAnyH_take (i := 0) (v := ?v0_85) rfl (by kernel_rfl) (by kernel_rfl) (by kernel_rfl) (fun _ _ _ h => h) (Or.inl ⟨by rfl, ?y0_85⟩) (by assumption) ?r0_85
                  case y0_85 => (intro w hSw; (try dsimp only at hSw); (go_simp; (try with_reducible rfl)))
                  (try simp only [Act.put, List.getElem_toArray, List.getElem_cons_succ, List.getElem_cons_zero, List.setIfInBounds_toArray, List.set_cons_zero, List.set_cons_succ])
                  refine wpAnyH_take (i := 1) (v := ?v1_86) rfl (by kernel_rfl) (by kernel_rfl) (by kernel_rfl) (fun _ _ _ h => h) (Or.inl ⟨by rfl, ?y1_86⟩) (by assumption) ?r1_86
                  case y1_86 => (intro w hSw; (try dsimp only at hSw); (go_simp; (try with_reducible rfl)))
                  (try simp only [Act.put, List.getElem_toArray, List.getElem_cons_succ, List.getElem_cons_zero, List.setIfInBounds_toArray, List.set_cons_zero, List.set_cons_succ])
                  refine wpAnyH_take (i := 2) (v := ?v2_87) rfl (by kernel_rfl) (by kernel_rfl) (by kernel_rfl) (fun _ _ _ h => h) (Or.inl ⟨by rfl, ?y2_87⟩) (by assumption) ?r2_87
                  case y2_87 => (intro w hSw; (try dsimp only at hSw); (go_simp; (try with_reducible rfl)))
                  (try simp only [Act.put, List.getElem_toArray, List.getElem_cons_succ, List.getElem_cons_zero, List.setIfInBounds_toArray, List.set_cons_zero, List.set_cons_succ])
                  refine wpAnyH_take (i := 3) (v := ?v3_88) rfl (by kernel_rfl) (by kernel_rfl) (by kernel_rfl) (fun _ _ _ h => h) (Or.inl ⟨by rfl, ?y3_88⟩) (by assumption) ?r3_88
                  case y3_88 => (intro w hSw; (try dsimp only at hSw); (go_simp; (try with_reducible rfl)))
                  (try simp only [Act.put, List.getElem_toArray, List.getElem_cons_succ, List.getElem_cons_zero, List.setIfInBounds_toArray, List.set_cons_zero, List.set_cons_succ])
                  refine wpAnyH_take (i := 4) (v := ?v4_89) rfl (by kernel_rfl) (by kernel_rfl) (by kernel_rfl) (fun _ _ _ h => h) (Or.inl ⟨by rfl, ?y4_89⟩) (by assumption) ?r4_89
                  case y4_89 => (intro w hSw; (try dsimp only at hSw); (go_simp; (try with_reducible rfl)))
                  (try simp only [Act.put, List.getElem_toArray, List.getElem_cons_succ, List.getElem_cons_zero, List.setIfInBounds_toArray, List.set_cons_zero, List.set_cons_succ])
                  refine wpAnyH_take (i := 5) (v := ?v5_90) rfl (by kernel_rfl) (by kernel_rfl) (by kernel_rfl) (fun _ _ _ h => h) (Or.inl ⟨by rfl, ?y5_90⟩) (by assumption) ?r5_90
                  case y5_90 => (intro w hSw; (try dsimp only at hSw); (go_simp; (try with_reducible rfl)))
                  (try simp only [Act.put, List.getElem_toArray, List.getElem_cons_succ, List.getElem_cons_zero, List.setIfInBounds_toArray, List.set_cons_zero, List.set_cons_succ])
                  refine wpAnyH_take (i := 6) (v := ?v6_91) rfl (by kernel_rfl) (by kernel_rfl) (by kernel_rfl) (fun _ _ _ h => h) (Or.inl ⟨by rfl, ?y6_91⟩) (by assumption) ?r6_91
                  case y6_91 => (intro w hSw; (try dsimp only at hSw); (go_simp; (try with_reducible rfl)))
                  (try simp only [Act.put, List.getElem_toArray, List.getElem_cons_succ, List.getElem_cons_zero, List.setIfInBounds_toArray, List.set_cons_zero, List.set_cons_succ])
                  refine wpAnyH_take (i := 7) (v := ?v7_92) rfl (by kernel_rfl) (by kernel_rfl) (by kernel_rfl) (fun _ _ _ h => h) (Or.inl ⟨by rfl, ?y7_92⟩) (by assumption) ?r7_92
                  case y7_92 => (intro w hSw; (try dsimp only at hSw); (go_simp; (try with_reducible rfl)))
                  (try simp only [Act.put, List.getElem_toArray, List.getElem_cons_succ, List.getElem_cons_zero, List.setIfInBounds_toArray, List.set_cons_zero, List.set_cons_succ])
                  refine wpAnyH_take (i := 8) (v := ?v8_93) rfl (by kernel_rfl) (by kernel_rfl) (by kernel_rfl) (fun _ _ _ h => h) (Or.inl ⟨by rfl, ?y8_93⟩) (by assumption) ?r8_93
                  case y8_93 => (intro w hSw; (try dsimp only at hSw); (go_simp; (try with_reducible rfl)))
                  (try simp only [Act.put, List.getElem_toArray, List.getElem_cons_succ, List.getElem_cons_zero, List.setIfInBounds_toArray, List.set_cons_zero, List.set_cons_succ])
                  refine wpAnyH_take (i := 10) (v := ?v10_94) rfl (by kernel_rfl) (by kernel_rfl) (by kernel_rfl) (fun _ _ _ h => h) (Or.inl ⟨by rfl, ?y10_94⟩) (by assumption) ?r10_94
                  case y10_94 => (intro w hSw; (try dsimp only at hSw); (go_simp; (try with_reducible rfl)))
                  (try simp only [Act.put, List.getElem_toArray, List.getElem_cons_succ, List.getElem_cons_zero, List.setIfInBounds_toArray, List.set_cons_zero, List.set_cons_succ])
                  refine wpAnyH_ready (rs := [9]) (by kernel_rfl) (by simp) ?_
                  refine AllReadyH.cons rfl (fun K hK => ?_) AllReadyH.nil
                  go_simp
                  go_at_call 47
                  refine (impl_Atom_id.calls x.f0 x.f1 x.f2 x.f3 x.f4 x.f5 x.f0 x.f1 _ rfl).mono ?_
                  rintro e w5 ⟨rfl, hb5⟩
                  have TA := Aside0.mk (SWD.out.step hb5)
                  clear hb5
                  (try dsimp only)
                  refine hK.out _ _ ⟨TA.out.1, TA.out.2.1, TA.out.2.2.1, TA.out.2.2.2.1, TA.out.2.2.2.2.1, TA.out.2.2.2.2.2.1, TA.out.2.2.2.2.2.2.1, ⟨TA.out.bel⟩, (PVH.out.below TA.out.bel).1, (PVH.out.below TA.out.bel).2.1, (PVH.out.below TA.out.bel).2.2.1, (PVH.out.below TA.out.bel).2.2.2.1, (PVH.out.below TA.out.bel).2.2.2.2.1, (PVH.out.below TA.out.bel).2.2.2.2.2⟩ (fun hHeld2 => ?_)
                  clear hK K
                  (try simp only [Act.put, List.getElem_toArray, List.getElem_cons_succ, List.getElem_cons_zero, List.setIfInBounds_toArray, List.set_cons_zero, List.set_cons_succ])
                  refine wpAnyH_ready (rs := [11]) (by kernel_rfl) (by simp) ?_
                  refine AllReadyH.cons rfl (fun K hK => ?_) AllReadyH.nil
                  go_simp
                  go_at_call 47
                  refine (impl_Atom_id.calls y.f0 y.f1 y.f2 y.f3 y.f4 y.f5 y.f0 y.f1 _ rfl).mono ?_
                  rintro e w5 ⟨rfl, hb5⟩
                  have TB := Aside0.mk (TA.out.step hb5)
                  clear hb5
                  (try dsimp only)
                  refine hK.out _ _ ⟨TB.out.1, TB.out.2.1, TB.out.2.2.1, TB.out.2.2.2.1, TB.out.2.2.2.2.1, TB.out.2.2.2.2.2.1, TB.out.2.2.2.2.2.2.1, ⟨TB.out.bel⟩, (PVH.out.below TB.out.bel).1, (PVH.out.below TB.out.bel).2.1, (PVH.out.below TB.out.bel).2.2.1, (PVH.out.below TB.out.bel).2.2.2.1, (PVH.out.below TB.out.bel).2.2.2.2.1, (PVH.out.below TB.out.bel).2.2.2.2.2⟩ (fun hHeld2 => ?_)
                  clear hK K
                  (try simp only [Act.put, List.getElem_toArray, List.getElem_cons_succ, List.getElem_cons_zero, List.setIfInBounds_toArray, List.set_cons_zero, List.set_cons_succ])
                  refine wpAnyH_ready (rs := [12]) (by kernel_rfl) (by simp) ?_
                  refine AllReadyH.cons rfl (fun K hK => ?_) AllReadyH.nil
                  go_simp
                  go_at_call 48
                  refine (impl_id_before.calls x.f0 x.f1 y.f0 y.f1 true _ HBF.out).mono ?_
                  rintro e w5 ⟨rfl, hb5⟩
                  have TC := Aside0.mk (TB.out.step hb5)
                  clear hb5
                  (try dsimp only)
                  refine hK.out _ _ ⟨TC.out.1, TC.out.2.1, TC.out.2.2.1, TC.out.2.2.2.1, TC.out.2.2.2.2.1, TC.out.2.2.2.2.2.1, TC.out.2.2.2.2.2.2.1, ⟨TC.out.bel⟩, (PVH.out.below TC.out.bel).1, (PVH.out.below TC.out.bel).2.1, (PVH.out.below TC.out.bel).2.2.1, (PVH.out.below TC.out.bel).2.2.2.1, (PVH.out.below TC.out.bel).2.2.2.2.1, (PVH.out.below TC.out.bel).2.2.2.2.2⟩ (fun hHeld2 => ?_)
                  clear hK K
                  (try simp only [Act.put, List.getElem_toArray, List.getElem_cons_succ, List.getElem_cons_zero, List.setIfInBounds_toArray, List.set_cons_zero, List.set_cons_succ])
                  refine wpAnyH_take (i := 13) (v := ?v13_95) rfl (by kernel_rfl) (by kernel_rfl) (by kernel_rfl) (fun _ _ _ h => h) (Or.inl ⟨by rfl, ?y13_95⟩) (by assumption) ?r13_95
                  case y13_95 => (intro w hSw; (try dsimp only at hSw); (go_simp; (try with_reducible rfl)))
                  (try simp only [Act.put, List.getElem_toArray, List.getElem_cons_succ, List.getElem_cons_zero, List.setIfInBounds_toArray, List.set_cons_zero, List.set_cons_succ])
                  refine wpAnyH_take (i := 14) (v := ?v14_96) rfl (by kernel_rfl) (by kernel_rfl) (by kernel_rfl) (fun _ _ _ h => h) (Or.inl ⟨by rfl, ?y14_96⟩) (by assumption) ?r14_96
                  case y14_96 => (intro w hSw; (try dsimp only at hSw); (go_simp; (try with_reducible rfl)))
                  (try simp only [Act.put, List.getElem_toArray, List.getElem_cons_succ, List.getElem_cons_zero, List.setIfInBounds_toArray, List.set_cons_zero, List.set_cons_succ])
                  refine wpAnyH_take (i := 15) (v := ?v15_97) rfl (by kernel_rfl) (by kernel_rfl) (by kernel_rfl) (fun _ _ _ h => h) (Or.inl ⟨by rfl, ?y15_97⟩) (by assumption) ?r15_97
                  case y15_97 => (intro w hSw; (try dsimp only at hSw); (go_simp; (try with_reducible rfl)))
                  (try simp only [Act.put, List.getElem_toArray, List.getElem_cons_succ, List.getElem_cons_zero, List.setIfInBounds_toArray, List.set_cons_zero, List.set_cons_succ])
                  refine wpAnyH_take (i := 16) (v := ?v16_98) rfl (by kernel_rfl) (by kernel_rfl) (by kernel_rfl) (fun _ _ _ h => h) (Or.inl ⟨by rfl, ?y16_98⟩) (by assumption) ?r16_98
                  case y16_98 => (intro w hSw; (try dsimp only at hSw); (go_simp; (try with_reducible rfl)))
                  (try simp only [Act.put, List.getElem_toArray, List.getElem_cons_succ, List.getElem_cons_zero, List.setIfInBounds_toArray, List.set_cons_zero, List.set_cons_succ])
                  refine wpAnyH_take (i := 17) (v := ?v17_99) rfl (by kernel_rfl) (by kernel_rfl) (by kernel_rfl) (fun _ _ _ h => h) (Or.inl ⟨by rfl, ?y17_99⟩) (by assumption) ?r17_99
                  case y17_99 => (intro w hSw; (try dsimp only at hSw); (go_simp; (try with_reducible rfl)))
                  (try simp only [Act.put, List.getElem_toArray, List.getElem_cons_succ, List.getElem_cons_zero, List.setIfInBounds_toArray, List.set_cons_zero, List.set_cons_succ])
                  refine wpAnyH_take (i := 18) (v := ?v18_100) rfl (by kernel_rfl) (by kernel_rfl) (by kernel_rfl) (fun _ _ _ h => h) (Or.inl ⟨by rfl, ?y18_100⟩) (by assumption) ?r18_100
                  case y18_100 => (intro w hSw; (try dsimp only at hSw); (go_simp; (try with_reducible rfl)))
                  (try simp only [Act.put, List.getElem_toArray, List.getElem_cons_succ, List.getElem_cons_zero, List.setIfInBounds_toArray, List.set_cons_zero, List.set_cons_succ])
                  refine wpAnyH_take (i := 19) (v := ?v19_101) rfl (by kernel_rfl) (by kernel_rfl) (by kernel_rfl) (fun _ _ _ h => h) (Or.inl ⟨by rfl, ?y19_101⟩) (by assumption) ?r19_101
                  case y19_101 => (intro w hSw; (try dsimp only at hSw); (go_simp; (try with_reducible rfl)))
                  (try simp only [Act.put, List.getElem_toArray, List.getElem_cons_succ, List.getElem_cons_zero, List.setIfInBounds_toArray, List.set_cons_zero, List.set_cons_succ])
                  refine wpAnyH_take (i := 20) (v := ?v20_102) rfl (by kernel_rfl) (by kernel_rfl) (by kernel_rfl) (fun _ _ _ h => h) (Or.inl ⟨by rfl, ?y20_102⟩) (by assumption) ?r20_102
                  case y20_102 => (intro w hSw; (try dsimp only at hSw); (go_simp; (try with_reducible rfl)))
                  (try simp only [Act.put, List.getElem_toArray, List.getElem_cons_succ, List.getElem_cons_zero, List.setIfInBounds_toArray, List.set_cons_zero, List.set_cons_succ])
                  refine wpAnyH_take (i := 21) (v := ?v21_103) rfl (by kernel_rfl) (by kernel_rfl) (by kernel_rfl) (fun _ _ _ h => h) (Or.inl ⟨by rfl, ?y21_103⟩) (by assumption) ?r21_103
                  case y21_103 => (intro w hSw; (try dsimp only at hSw); (go_simp; (try with_reducible rfl)))
                  (try simp only [Act.put, List.getElem_toArray, List.getElem_cons_succ, List.getElem_cons_zero, List.setIfInBounds_toArray, List.set_cons_zero, List.set_cons_succ])
                  refine wpAnyH_take (i := 22) (v := ?v22_104) rfl (by kernel_rfl) (by kernel_rfl) (by kernel_rfl) (fun _ _ _ h => h) (Or.inl ⟨by rfl, ?y22_104⟩) (by assumption) ?r22_104
                  case y22_104 => (intro w hSw; (try dsimp only at hSw); (go_simp; (try with_reducible rfl)))
                  (try simp only [Act.put, List.getElem_toArray, List.getElem_cons_succ, List.getElem_cons_zero, List.setIfInBounds_toArray, List.set_cons_zero, List.set_cons_succ])
                  refine wpAnyH_take (i := 23) (v := ?v23_105) rfl (by kernel_rfl) (by kernel_rfl) (by kernel_rfl) (fun _ _ _ h => h) (Or.inl ⟨by rfl, ?y23_105⟩) (by assumption) ?r23_105
                  case y23_105 => (intro w hSw; (try dsimp only at hSw); (go_simp; (try with_reducible rfl)))
                  (try simp only [Act.put, List.getElem_toArray, List.getElem_cons_succ, List.getElem_cons_zero, List.setIfInBounds_toArray, List.set_cons_zero, List.set_cons_succ])
                  refine wpAnyH_take (i := 24) (v := ?v24_106) rfl (by kernel_rfl) (by kernel_rfl) (by kernel_rfl) (fun _ _ _ h => h) (Or.inl ⟨by rfl, ?y24_106⟩) (by assumption) ?r24_106
                  case y24_106 => (intro w hSw; (try dsimp only at hSw); (go_simp; (try with_reducible rfl)))
                  (try simp only [Act.put, List.getElem_toArray, List.getElem_cons_succ, List.getElem_cons_zero, List.setIfInBounds_toArray, List.set_cons_zero, List.set_cons_succ])
                  refine wpAnyH_ready (rs := [25]) (by kernel_rfl) (by simp) ?_
                  refine AllReadyH.cons rfl (fun K hK => ?_) AllReadyH.nil
                  go_simp
                  go_at_call 49
                  refine (impl_Atom_behind.calls y.f0 y.f1 y.f2 y.f3 y.f4 y.f5 y.f2 y.f3 _ rfl).mono ?_
                  rintro e w5 ⟨rfl, hb5⟩
                  have TE := Aside0.mk (TC.out.step hb5)
                  clear hb5
                  (try dsimp only)
                  refine hK.out _ _ ⟨TE.out.1, TE.out.2.1, TE.out.2.2.1, TE.out.2.2.2.1, TE.out.2.2.2.2.1, TE.out.2.2.2.2.2.1, TE.out.2.2.2.2.2.2.1, ⟨TE.out.bel⟩, (PVH.out.below TE.out.bel).1, (PVH.out.below TE.out.bel).2.1, (PVH.out.below TE.out.bel).2.2.1, (PVH.out.below TE.out.bel).2.2.2.1, (PVH.out.below TE.out.bel).2.2.2.2.1, (PVH.out.below TE.out.bel).2.2.2.2.2⟩ (fun hHeld2 => ?_)
                  clear hK K
                  (try simp only [Act.put, List.getElem_toArray, List.getElem_cons_succ, List.getElem_cons_zero, List.setIfInBounds_toArray, List.set_cons_zero, List.set_cons_succ])
                  refine wpAnyH_take (i := 26) (v := .bool false) rfl (by kernel_rfl) (by kernel_rfl) (by kernel_rfl) (fun _ _ _ h => h) (Or.inl ⟨by rfl, ?y26_107⟩) (by assumption) ?r26_107
                  case y26_107 => (intro w hSw; (try dsimp only at hSw); have e_ := HLK.out w hSw.2.2.2.2.2.2.2.1.out; clear hSw; go_simp)
                  (try simp only [Act.put, List.getElem_toArray, List.getElem_cons_succ, List.getElem_cons_zero, List.setIfInBounds_toArray, List.set_cons_zero, List.set_cons_succ])
                  refine wpAnyH_take (i := 27) (v := ?v27_108) rfl (by kernel_rfl) (by kernel_rfl) (by kernel_rfl) (fun _ _ _ h => h) (Or.inl ⟨by rfl, ?y27_108⟩) (by assumption) ?r27_108
                  case y27_108 => (intro w hSw; (try dsimp only at hSw); (go_simp; (try with_reducible rfl)))
                  (try simp only [Act.put, List.getElem_toArray, List.getElem_cons_succ, List.getElem_cons_zero, List.setIfInBounds_toArray, List.set_cons_zero, List.set_cons_succ])
                  refine wpAnyH_take (i := 28) (v := ?v28_109) rfl (by kernel_rfl) (by kernel_rfl) (by kernel_rfl) (fun _ _ _ h => h) (Or.inl ⟨by rfl, ?y28_109⟩) (by assumption) ?r28_109
                  case y28_109 => (intro w hSw; (try dsimp only at hSw); (go_simp; (try with_reducible rfl)))
                  (try simp only [Act.put, List.getElem_toArray, List.getElem_cons_succ, List.getElem_cons_zero, List.setIfInBounds_toArray, List.set_cons_zero, List.set_cons_succ])
                  refine wpAnyH_done (by kernel_rfl) ?_ _
                  go_wp2
                  go_ret
                  exact ⟨by rw [HF.out]; rfl, below_step BW.out TE.out.bel⟩
                | true =>
                  rw [hth] at HLK OK2
                  have HF : Aside0 (fromB (atomI l) l 0 = fromB (atomI l) (l.drop (j + 1 + 1)) (j + 1 + 1)) := ⟨by rw [OK2]; rfl⟩
                  clear OK2 hth
                  have hwj := HWJ.out
                  refine wp_region_held_drew (S := (fun W => W.cell? ⟨gs, 0, none⟩ = some (.slice (some ad) l.length c) ∧ W.cell? ⟨ga, 0, none⟩ = some (.int .i64 y.f0) ∧ W.cell? ⟨ga, 1, none⟩ = some (.int .i64 y.f1) ∧ W.cell? ⟨ga, 2, none⟩ = some (.int .i64 y.f2) ∧ W.cell? ⟨ga, 3, none⟩ = some (.int .i64 y.f3) ∧ W.cell? ⟨ga, 4, none⟩ = some (.string y.f4) ∧ W.cell? ⟨ga, 5, none⟩ = some (.bool y.f5) ∧ Aside0 (Below wr.heap.size wr W) ∧ W.cell? (ad.add (j * 6)) = some (.int .i64 x.f0) ∧ W.cell? ⟨(ad.add (j * 6)).block, (ad.add (j * 6)).off + 1, none⟩ = some (.int .i64 x.f1) ∧ W.cell? ⟨(ad.add (j * 6)).block, (ad.add (j * 6)).off + 2, none⟩ = some (.int .i64 x.f2) ∧ W.cell? ⟨(ad.add (j * 6)).block, (ad.add (j * 6)).off + 3, none⟩ = some (.int .i64 x.f3) ∧ W.cell? ⟨(ad.add (j * 6)).block, (ad.add (j * 6)).off + 4, none⟩ = some (.string x.f4) ∧ W.cell? ⟨(ad.add (j * 6)).block, (ad.add (j * 6)).off + 5, none⟩ = some (.bool x.f5))) (by kernel_rfl) ⟨SWD.out.1, SWD.out.2.1, SWD.out.2.2.1, SWD.out.2.2.2.1, SWD.out.2.2.2.2.1, SWD.out.2.2.2.2.2.1, SWD.out.2.2.2.2.2.2.1, ⟨SWD.out.bel⟩, (PVH.out.below SWD.out.bel).1, (PVH.out.below SWD.out.bel).2.1, (PVH.out.below SWD.out.bel).2.2.1, (PVH.out.below SWD.out.bel).2.2.2.1, (PVH.out.below SWD.out.bel).2.2.2.2.1, (PVH.out.below SWD.out.bel).2.2.2.2.2⟩ (fun hHeld => ?_)
                  refine wpAnyH_take (i := 0) (v := ?v0_110) rfl (by kernel_rfl) (by kernel_rfl) (by kernel_rfl) (fun _ _ _ h => h) (Or.inl ⟨by rfl, ?y0_110⟩) (by assumption) ?r0_110
                  case y0_110 => (intro w hSw; (try dsimp only at hSw); (go_simp; (try with_reducible rfl)))
                  (try simp only [Act.put, List.getElem_toArray, List.getElem_cons_succ, List.getElem_cons_zero, List.setIfInBounds_toArray, List.set_cons_zero, List.set_cons_succ])
                  refine wpAnyH_take (i := 1) (v := ?v1_111) rfl (by kernel_rfl) (by kernel_rfl) (by kernel_rfl) (fun _ _ _ h => h) (Or.inl ⟨by rfl, ?y1_111⟩) (by assumption) ?r1_111
                  case y1_111 => (intro w hSw; (try dsimp only at hSw); (go_simp; (try with_reducible rfl)))
                  (try simp only [Act.put, List.getElem_toArray, List.getElem_cons_succ, List.getElem_cons_zero, List.setIfInBounds_toArray, List.set_cons_zero, List.set_cons_succ])
                  refine wpAnyH_take (i := 2) (v := ?v2_112) rfl (by kernel_rfl) (by kernel_rfl) (by kernel_rfl) (fun _ _ _ h => h) (Or.inl ⟨by rfl, ?y2_112⟩) (by assumption) ?r2_112
                  case y2_112 => (intro w hSw; (try dsimp only at hSw); (go_simp; (try with_reducible rfl)))
                  (try simp only [Act.put, List.getElem_toArray, List.getElem_cons_succ, List.getElem_cons_zero, List.setIfInBounds_toArray, List.set_cons_zero, List.set_cons_succ])
                  refine wpAnyH_take (i := 3) (v := ?v3_113) rfl (by kernel_rfl) (by kernel_rfl) (by kernel_rfl) (fun _ _ _ h => h) (Or.inl ⟨by rfl, ?y3_113⟩) (by assumption) ?r3_113
                  case y3_113 => (intro w hSw; (try dsimp only at hSw); (go_simp; (try with_reducible rfl)))
                  (try simp only [Act.put, List.getElem_toArray, List.getElem_cons_succ, List.getElem_cons_zero, List.setIfInBounds_toArray, List.set_cons_zero, List.set_cons_succ])
                  refine wpAnyH_take (i := 4) (v := ?v4_114) rfl (by kernel_rfl) (by kernel_rfl) (by kernel_rfl) (fun _ _ _ h => h) (Or.inl ⟨by rfl, ?y4_114⟩) (by assumption) ?r4_114
                  case y4_114 => (intro w hSw; (try dsimp only at hSw); (go_simp; (try with_reducible rfl)))
                  (try simp only [Act.put, List.getElem_toArray, List.getElem_cons_succ, List.getElem_cons_zero, List.setIfInBounds_toArray, List.set_cons_zero, List.set_cons_succ])
                  refine wpAnyH_take (i := 5) (v := ?v5_115) rfl (by kernel_rfl) (by kernel_rfl) (by kernel_rfl) (fun _ _ _ h => h) (Or.inl ⟨by rfl, ?y5_115⟩) (by assumption) ?r5_115
                  case y5_115 => (intro w hSw; (try dsimp only at hSw); (go_simp; (try with_reducible rfl)))
                  (try simp only [Act.put, List.getElem_toArray, List.getElem_cons_succ, List.getElem_cons_zero, List.setIfInBounds_toArray, List.set_cons_zero, List.set_cons_succ])
                  refine wpAnyH_take (i := 6) (v := ?v6_116) rfl (by kernel_rfl) (by kernel_rfl) (by kernel_rfl) (fun _ _ _ h => h) (Or.inl ⟨by rfl, ?y6_116⟩) (by assumption) ?r6_116
                  case y6_116 => (intro w hSw; (try dsimp only at hSw); (go_simp; (try with_reducible rfl)))
                  (try simp only [Act.put, List.getElem_toArray, List.getElem_cons_succ, List.getElem_cons_zero, List.setIfInBounds_toArray, List.set_cons_zero, List.set_cons_succ])
                  refine wpAnyH_take (i := 7) (v := ?v7_117) rfl (by kernel_rfl) (by kernel_rfl) (by kernel_rfl) (fun _ _ _ h => h) (Or.inl ⟨by rfl, ?y7_117⟩) (by assumption) ?r7_117
                  case y7_117 => (intro w hSw; (try dsimp only at hSw); (go_simp; (try with_reducible rfl)))
                  (try simp only [Act.put, List.getElem_toArray, List.getElem_cons_succ, List.getElem_cons_zero, List.setIfInBounds_toArray, List.set_cons_zero, List.set_cons_succ])
                  refine wpAnyH_take (i := 8) (v := ?v8_118) rfl (by kernel_rfl) (by kernel_rfl) (by kernel_rfl) (fun _ _ _ h => h) (Or.inl ⟨by rfl, ?y8_118⟩) (by assumption) ?r8_118
                  case y8_118 => (intro w hSw; (try dsimp only at hSw); (go_simp; (try with_reducible rfl)))
                  (try simp only [Act.put, List.getElem_toArray, List.getElem_cons_succ, List.getElem_cons_zero, List.setIfInBounds_toArray, List.set_cons_zero, List.set_cons_succ])
                  refine wpAnyH_take (i := 10) (v := ?v10_119) rfl (by kernel_rfl) (by kernel_rfl) (by kernel_rfl) (fun _ _ _ h => h) (Or.inl ⟨by rfl, ?y10_119⟩) (by assumption) ?r10_119
                  case y10_119 => (intro w hSw; (try dsimp only at hSw); (go_simp; (try with_reducible rfl)))
                  (try simp only [Act.put, List.getElem_toArray, List.getElem_cons_succ, List.getElem_cons_zero, List.setIfInBounds_toArray, List.set_cons_zero, List.set_cons_succ])
                  refine wpAnyH_ready (rs := [9]) (by kernel_rfl) (by simp) ?_
                  refine AllReadyH.cons rfl (fun K hK => ?_) AllReadyH.nil
                  go_simp
                  go_at_call 47
                  refine (impl_Atom_id.calls x.f0 x.f1 x.f2 x.f3 x.f4 x.f5 x.f0 x.f1 _ rfl).mono ?_
                  rintro e w5 ⟨rfl, hb5⟩
                  have TA := Aside0.mk (SWD.out.step hb5)
                  clear hb5
                  (try dsimp only)
                  refine hK.out _ _ ⟨TA.out.1, TA.out.2.1, TA.out.2.2.1, TA.out.2.2.2.1, TA.out.2.2.2.2.1, TA.out.2.2.2.2.2.1, TA.out.2.2.2.2.2.2.1, ⟨TA.out.bel⟩, (PVH.out.below TA.out.bel).1, (PVH.out.below TA.out.bel).2.1, (PVH.out.below TA.out.bel).2.2.1, (PVH.out.below TA.out.bel).2.2.2.1, (PVH.out.below TA.out.bel).2.2.2.2.1, (PVH.out.below TA.out.bel).2.2.2.2.2⟩ (fun hHeld2 => ?_)
                  clear hK K
                  (try simp only [Act.put, List.getElem_toArray, List.getElem_cons_succ, List.getElem_cons_zero, List.setIfInBounds_toArray, List.set_cons_zero, List.set_cons_succ])
                  refine wpAnyH_ready (rs := [11]) (by kernel_rfl) (by simp) ?_
                  refine AllReadyH.cons rfl (fun K hK => ?_) AllReadyH.nil
                  go_simp
                  go_at_call 47
                  refine (impl_Atom_id.calls y.f0 y.f1 y.f2 y.f3 y.f4 y.f5 y.f0 y.f1 _ rfl).mono ?_
                  rintro e w5 ⟨rfl, hb5⟩
                  have TB := Aside0.mk (TA.out.step hb5)
                  clear hb5
                  (try dsimp only)
                  refine hK.out _ _ ⟨TB.out.1, TB.out.2.1, TB.out.2.2.1, TB.out.2.2.2.1, TB.out.2.2.2.2.1, TB.out.2.2.2.2.2.1, TB.out.2.2.2.2.2.2.1, ⟨TB.out.bel⟩, (PVH.out.below TB.out.bel).1, (PVH.out.below TB.out.bel).2.1, (PVH.out.below TB.out.bel).2.2.1, (PVH.out.below TB.out.bel).2.2.2.1, (PVH.out.below TB.out.bel).2.2.2.2.1, (PVH.out.below TB.out.bel).2.2.2.2.2⟩ (fun hHeld2 => ?_)
                  clear hK K
                  (try simp only [Act.put, List.getElem_toArray, List.getElem_cons_succ, List.getElem_cons_zero, List.setIfInBounds_toArray, List.set_cons_zero, List.set_cons_succ])
                  refine wpAnyH_ready (rs := [12]) (by kernel_rfl) (by simp) ?_
                  refine AllReadyH.cons rfl (fun K hK => ?_) AllReadyH.nil
                  go_simp
                  go_at_call 48
                  refine (impl_id_before.calls x.f0 x.f1 y.f0 y.f1 true _ HBF.out).mono ?_
                  rintro e w5 ⟨rfl, hb5⟩
                  have TC := Aside0.mk (TB.out.step hb5)
                  clear hb5
                  (try dsimp only)
                  refine hK.out _ _ ⟨TC.out.1, TC.out.2.1, TC.out.2.2.1, TC.out.2.2.2.1, TC.out.2.2.2.2.1, TC.out.2.2.2.2.2.1, TC.out.2.2.2.2.2.2.1, ⟨TC.out.bel⟩, (PVH.out.below TC.out.bel).1, (PVH.out.below TC.out.bel).2.1, (PVH.out.below TC.out.bel).2.2.1, (PVH.out.below TC.out.bel).2.2.2.1, (PVH.out.below TC.out.bel).2.2.2.2.1, (PVH.out.below TC.out.bel).2.2.2.2.2⟩ (fun hHeld2 => ?_)
                  clear hK K
                  (try simp only [Act.put, List.getElem_toArray, List.getElem_cons_succ, List.getElem_cons_zero, List.setIfInBounds_toArray, List.set_cons_zero, List.set_cons_succ])
                  refine wpAnyH_take (i := 13) (v := ?v13_120) rfl (by kernel_rfl) (by kernel_rfl) (by kernel_rfl) (fun _ _ _ h => h) (Or.inl ⟨by rfl, ?y13_120⟩) (by assumption) ?r13_120
                  case y13_120 => (intro w hSw; (try dsimp only at hSw); (go_simp; (try with_reducible rfl)))
                  (try simp only [Act.put, List.getElem_toArray, List.getElem_cons_succ, List.getElem_cons_zero, List.setIfInBounds_toArray, List.set_cons_zero, List.set_cons_succ])
                  refine wpAnyH_take (i := 14) (v := ?v14_121) rfl (by kernel_rfl) (by kernel_rfl) (by kernel_rfl) (fun _ _ _ h => h) (Or.inl ⟨by rfl, ?y14_121⟩) (by assumption) ?r14_121
                  case y14_121 => (intro w hSw; (try dsimp only at hSw); (go_simp; (try with_reducible rfl)))
                  (try simp only [Act.put, List.getElem_toArray, List.getElem_cons_succ, List.getElem_cons_zero, List.setIfInBounds_toArray, List.set_cons_zero, List.set_cons_succ])
                  refine wpAnyH_take (i := 15) (v := ?v15_122) rfl (by kernel_rfl) (by kernel_rfl) (by kernel_rfl) (fun _ _ _ h => h) (Or.inl ⟨by rfl, ?y15_122⟩) (by assumption) ?r15_122
                  case y15_122 => (intro w hSw; (try dsimp only at hSw); (go_simp; (try with_reducible rfl)))
                  (try simp only [Act.put, List.getElem_toArray, List.getElem_cons_succ, List.getElem_cons_zero, List.setIfInBounds_toArray, List.set_cons_zero, List.set_cons_succ])
                  refine wpAnyH_take (i := 16) (v := ?v16_123) rfl (by kernel_rfl) (by kernel_rfl) (by kernel_rfl) (fun _ _ _ h => h) (Or.inl ⟨by rfl, ?y16_123⟩) (by assumption) ?r16_123
                  case y16_123 => (intro w hSw; (try dsimp only at hSw); (go_simp; (try with_reducible rfl)))
                  (try simp only [Act.put, List.getElem_toArray, List.getElem_cons_succ, List.getElem_cons_zero, List.setIfInBounds_toArray, List.set_cons_zero, List.set_cons_succ])
                  refine wpAnyH_take (i := 17) (v := ?v17_124) rfl (by kernel_rfl) (by kernel_rfl) (by kernel_rfl) (fun _ _ _ h => h) (Or.inl ⟨by rfl, ?y17_124⟩) (by assumption) ?r17_124
                  case y17_124 => (intro w hSw; (try dsimp only at hSw); (go_simp; (try with_reducible rfl)))
                  (try simp only [Act.put, List.getElem_toArray, List.getElem_cons_succ, List.getElem_cons_zero, List.setIfInBounds_toArray, List.set_cons_zero, List.set_cons_succ])
                  refine wpAnyH_take (i := 18) (v := ?v18_125) rfl (by kernel_rfl) (by kernel_rfl) (by kernel_rfl) (fun _ _ _ h => h) (Or.inl ⟨by rfl, ?y18_125⟩) (by assumption) ?r18_125
                  case y18_125 => (intro w hSw; (try dsimp only at hSw); (go_simp; (try with_reducible rfl)))
                  (try simp only [Act.put, List.getElem_toArray, List.getElem_cons_succ, List.getElem_cons_zero, List.setIfInBounds_toArray, List.set_cons_zero, List.set_cons_succ])
                  refine wpAnyH_take (i := 19) (v := ?v19_126) rfl (by kernel_rfl) (by kernel_rfl) (by kernel_rfl) (fun _ _ _ h => h) (Or.inl ⟨by rfl, ?y19_126⟩) (by assumption) ?r19_126
                  case y19_126 => (intro w hSw; (try dsimp only at hSw); (go_simp; (try with_reducible rfl)))
                  (try simp only [Act.put, List.getElem_toArray, List.getElem_cons_succ, List.getElem_cons_zero, List.setIfInBounds_toArray, List.set_cons_zero, List.set_cons_succ])
                  refine wpAnyH_take (i := 20) (v := ?v20_127) rfl (by kernel_rfl) (by kernel_rfl) (by kernel_rfl) (fun _ _ _ h => h) (Or.inl ⟨by rfl, ?y20_127⟩) (by assumption) ?r20_127
                  case y20_127 => (intro w hSw; (try dsimp only at hSw); (go_simp; (try with_reducible rfl)))
                  (try simp only [Act.put, List.getElem_toArray, List.getElem_cons_succ, List.getElem_cons_zero, List.setIfInBounds_toArray, List.set_cons_zero, List.set_cons_succ])
                  refine wpAnyH_take (i := 21) (v := ?v21_128) rfl (by kernel_rfl) (by kernel_rfl) (by kernel_rfl) (fun _ _ _ h => h) (Or.inl ⟨by rfl, ?y21_128⟩) (by assumption) ?r21_128
                  case y21_128 => (intro w hSw; (try dsimp only at hSw); (go_simp; (try with_reducible rfl)))
                  (try simp only [Act.put, List.getElem_toArray, List.getElem_cons_succ, List.getElem_cons_zero, List.setIfInBounds_toArray, List.set_cons_zero, List.set_cons_succ])
                  refine wpAnyH_take (i := 22) (v := ?v22_129) rfl (by kernel_rfl) (by kernel_rfl) (by kernel_rfl) (fun _ _ _ h => h) (Or.inl ⟨by rfl, ?y22_129⟩) (by assumption) ?r22_129
                  case y22_129 => (intro w hSw; (try dsimp only at hSw); (go_simp; (try with_reducible rfl)))
                  (try simp only [Act.put, List.getElem_toArray, List.getElem_cons_succ, List.getElem_cons_zero, List.setIfInBounds_toArray, List.set_cons_zero, List.set_cons_succ])
                  refine wpAnyH_take (i := 23) (v := ?v23_130) rfl (by kernel_rfl) (by kernel_rfl) (by kernel_rfl) (fun _ _ _ h => h) (Or.inl ⟨by rfl, ?y23_130⟩) (by assumption) ?r23_130
                  case y23_130 => (intro w hSw; (try dsimp only at hSw); (go_simp; (try with_reducible rfl)))
                  (try simp only [Act.put, List.getElem_toArray, List.getElem_cons_succ, List.getElem_cons_zero, List.setIfInBounds_toArray, List.set_cons_zero, List.set_cons_succ])
                  refine wpAnyH_take (i := 24) (v := ?v24_131) rfl (by kernel_rfl) (by kernel_rfl) (by kernel_rfl) (fun _ _ _ h => h) (Or.inl ⟨by rfl, ?y24_131⟩) (by assumption) ?r24_131
                  case y24_131 => (intro w hSw; (try dsimp only at hSw); (go_simp; (try with_reducible rfl)))
                  (try simp only [Act.put, List.getElem_toArray, List.getElem_cons_succ, List.getElem_cons_zero, List.setIfInBounds_toArray, List.set_cons_zero, List.set_cons_succ])
                  refine wpAnyH_ready (rs := [25]) (by kernel_rfl) (by simp) ?_
                  refine AllReadyH.cons rfl (fun K hK => ?_) AllReadyH.nil
                  go_simp
                  go_at_call 49
                  refine (impl_Atom_behind.calls y.f0 y.f1 y.f2 y.f3 y.f4 y.f5 y.f2 y.f3 _ rfl).mono ?_
                  rintro e w5 ⟨rfl, hb5⟩
                  have TE := Aside0.mk (TC.out.step hb5)
                  clear hb5
                  (try dsimp only)
                  refine hK.out _ _ ⟨TE.out.1, TE.out.2.1, TE.out.2.2.1, TE.out.2.2.2.1, TE.out.2.2.2.2.1, TE.out.2.2.2.2.2.1, TE.out.2.2.2.2.2.2.1, ⟨TE.out.bel⟩, (PVH.out.below TE.out.bel).1, (PVH.out.below TE.out.bel).2.1, (PVH.out.below TE.out.bel).2.2.1, (PVH.out.below TE.out.bel).2.2.2.1, (PVH.out.below TE.out.bel).2.2.2.2.1, (PVH.out.below TE.out.bel).2.2.2.2.2⟩ (fun hHeld2 => ?_)
                  clear hK K
                  (try simp only [Act.put, List.getElem_toArray, List.getElem_cons_succ, List.getElem_cons_zero, List.setIfInBounds_toArray, List.set_cons_zero, List.set_cons_succ])
                  refine wpAnyH_take (i := 26) (v := .bool true) rfl (by kernel_rfl) (by kernel_rfl) (by kernel_rfl) (fun _ _ _ h => h) (Or.inl ⟨by rfl, ?y26_132⟩) (by assumption) ?r26_132
                  case y26_132 => (intro w hSw; (try dsimp only at hSw); have e_ := HLK.out w hSw.2.2.2.2.2.2.2.1.out; clear hSw; go_simp)
                  (try simp only [Act.put, List.getElem_toArray, List.getElem_cons_succ, List.getElem_cons_zero, List.setIfInBounds_toArray, List.set_cons_zero, List.set_cons_succ])
                  refine wpAnyH_take (i := 27) (v := ?v27_133) rfl (by kernel_rfl) (by kernel_rfl) (by kernel_rfl) (fun _ _ _ h => h) (Or.inl ⟨by rfl, ?y27_133⟩) (by assumption) ?r27_133
                  case y27_133 => (intro w hSw; (try dsimp only at hSw); (go_simp; (try with_reducible rfl)))
                  (try simp only [Act.put, List.getElem_toArray, List.getElem_cons_succ, List.getElem_cons_zero, List.setIfInBounds_toArray, List.set_cons_zero, List.set_cons_succ])
                  refine wpAnyH_take (i := 28) (v := ?v28_134) rfl (by kernel_rfl) (by kernel_rfl) (by kernel_rfl) (fun _ _ _ h => h) (Or.inl ⟨by rfl, ?y28_134⟩) (by assumption) ?r28_134
                  case y28_134 => (intro w hSw; (try dsimp only at hSw); (go_simp; (try with_reducible rfl)))
                  (try simp only [Act.put, List.getElem_toArray, List.getElem_cons_succ, List.getElem_cons_zero, List.setIfInBounds_toArray, List.set_cons_zero, List.set_cons_succ])
                  clear hwj
                  refine wpAnyH_done (by kernel_rfl) ?_ _
                  have CE := TE.out
                  have u1 := CE.2.1
                  have u2 := CE.2.2.1
                  have u3 := CE.2.2.2.1
                  have u4 := CE.2.2.2.2.1
                  have u5 := CE.2.2.2.2.2.1
                  have u6 := CE.2.2.2.2.2.2.1
                  clear CE
                  go_wp2_with (first | (go_at_call 47; refine (impl_Atom_id.calls y.f0 y.f1 y.f2 y.f3 y.f4 y.f5 y.f0 y.f1 _ rfl).mono ?_; rintro e w7 ⟨rfl, hb7⟩; have TD := Aside0.mk (TE.out.step hb7); clear hb7; obtain ⟨kl, hkl⟩ := key_id YW.out.1 YW.out.2.1; have HKL := Aside0.mk hkl; clear hkl; obtain ⟨D, hD1, hD2⟩ := (MI.out.below TD.out.bel); have HD2 := Aside0.mk hD2; clear hD2) | (at_mapUpdate; refine wpList_mapUpdate_own _ rfl _ _ _ 69 rfl 68 4 lawId Try.underlying69 _ _ ((j + 1) + 1) D rfl hD1 (by unfold maxLen; omega) _ _ _ rfl rfl HKL.out _ [] (plainElem_bool Try.underlying4 true) ?_; intro w8 hown8 hgrow8))
                  have MI8 := Aside0.mk (MapIs.snoc HD2.out HKL.out hown8)
                  have BK8 : Aside0 (w8.heap[gs]? = some (.cells #[.slice (some ad) l.length c] 29 (0, 0))) := ⟨blk_grown (blk_below BK.out TD.out.bel) hgrow8 (fun e => (MI.out.ne BK.out) (Option.some.inj e))⟩
                  have HB8 : Aside0 (Below w.heap.size w w8) := ⟨(below_step BW.out TD.out.bel).grown hgrow8 (below_step BW.out TD.out.bel).size (by intro k hk; cases hk; exact BM.out)⟩
                  clear hown8 hgrow8 hD1
                  go_roundg (l.length - ((j + 1) + 1))
                  case measure => omega
                  case rel => have hl64 := HL.out; exact ⟨(j + 1) + 1, by omega, by omega, by (first | go_num | (congr 1; unfold wrap64; omega)), ⟨HB8.out⟩, ⟨BK8.out⟩, ⟨by rw [TK.out]; exact MI8.out⟩, ⟨HF.out⟩⟩
      · have hltz : ¬ (kk : Int) < (l.length : Int) := by omega
        have HF : Aside0 (fromB (atomI l) l 0 = true) := ⟨by rw [OK.out, List.drop_eq_nil_of_le (by omega)]; rfl⟩
        clear OK
        go_wp2
        go_ret
        exact ⟨by rw [HF.out]; rfl, BW.out⟩
  · have hl80z : (80 : Int) < (l.length : Int) := by omega
    rw [goodI_long hl80]
    go_enter Try.func15, Try.ntmps15
    go_wp2_with ((with_reducible refine gate_dst (N := 1) rfl ?_); refine box_event ?hg (N := 1) ?hd (cs := #[.slice A l.length c]) (t := 29) ?hr ?_; (case hd => rfl); (case hg => rfl); (case hr => first | (go_simp; done) | (go_simp; rfl)); intro gs hg w3 hbox hb; have HB : Aside0 (Below w.heap.size w w3) := ⟨hb⟩; have x0 : w3.cell? ⟨gs, 0, none⟩ = some (.slice A l.length c) := (blk_cell hbox 0).trans rfl; have BK := Aside0.mk hbox; clear hb hbox hg)
    go_ret
    exact ⟨rfl, HB.out⟩
def impl_GoodSeq.f (l0_0 : List (S61)) : Option (Bool) := if sizedA l0_0 = true then some (goodI l0_0) else none
theorem impl_GoodSeq.calls (A0_0 : Option Addr) (c0_0 : Nat) (l0_0 : List (S61)) (r : Bool) (w : World) (hr0_0 : Kd.C k61 w A0_0 l0_0.length l0_0) (hc0_0 : l0_0.length ≤ c0_0) (h : impl_GoodSeq.f l0_0 = some r) :
    Calls Try.prog 15 #[.agg #[.slice A0_0 l0_0.length c0_0]] w fun e w' => e = .returned (.bool r) ∧ Below w.heap.size w w' := by
  unfold impl_GoodSeq.f at h
  by_cases hs : sizedA l0_0 = true
  · rw [if_pos hs] at h
    obtain rfl := Option.some.inj h
    exact goodSeq_walk A0_0 c0_0 l0_0 w hr0_0 hc0_0 hs
  · rw [if_neg hs] at h
    exact absurd h (by simp)
theorem implGoodSeq_val (l : List Atom) (hs : sizedA l = true) : impl_GoodSeq.f l = some (goodS l) := by
  unfold impl_GoodSeq.f
  rw [if_pos hs, goodI_eq]
end Go.Proofs.Ytaofjlelclbioaa.X
namespace Go.Proofs.Ytaofjlelclbioaa.X
open Go.RowKit Go.Proofs.YtaofjlelclbioaaW.PrintWords Go.Proofs.YtaofjlelclbioaaW.PrintLast Go.Proofs.YtaofjlelclbioaaW.PrintMore
attribute [local go_sem] max2_int min2_int max_two min_two max_three min_three max_four min_four   -- for this text's walks alone
set_option linter.unusedVariables false
set_option linter.unusedSimpArgs false

/-! ### laws_szAtom: function 69 -/
def laws_szAtom.f (a0_0 : Int) (a0_1 : Int) (a0_2 : Int) (a0_3 : Int) (a0_4 : ByteArray) (a0_5 : Bool) (a1 : Int) : Option (Int) := if (wrap64 (a1 - (a0_4.size : Int))) < 0 then (some (-1)) else (some (wrap64 (a1 - (a0_4.size : Int))))
set_option maxHeartbeats 8000000 in
set_option maxRecDepth 100000 in
theorem laws_szAtom.calls (a0_0 : Int) (a0_1 : Int) (a0_2 : Int) (a0_3 : Int) (a0_4 : ByteArray) (a0_5 : Bool) (a1 : Int) (r : Int) (w : World) (h : laws_szAtom.f a0_0 a0_1 a0_2 a0_3 a0_4 a0_5 a1 = some r) :
    Calls Try.prog 69 #[.agg #[.int .i64 a0_0, .int .i64 a0_1, .int .i64 a0_2, .int .i64 a0_3, .string a0_4, .bool a0_5], .int .i64 a1] w fun e w' => e = .returned (.int .i64 r) ∧ Below w.heap.size w w' := by
  have hu96 := Try.underlying96
  have HB := Aside0.mk (Below.refl w.heap.size w)
  have H : (if (wrap64 (a1 - (a0_4.size : Int))) < 0 then (some (-1)) else (some (wrap64 (a1 - (a0_4.size : Int))))) = some r := h
  clear h
  by_cases c3 : (wrap64 (a1 - (a0_4.size : Int))) < 0
  · rw [if_pos c3] at H
    have c3b0 : decide ((wrap64 (a1 - (a0_4.size : Int))) < 0) = true := decide_eq_true c3
    clear c3
    obtain rfl := Option.some.inj H
    go_enter Try.func69, Try.ntmps69
    go_wp2_with (first | ((with_reducible refine gate_dst (N := 2) rfl ?_); refine box_event ?hg (N := 2) ?hd (cs := #[.int .i64 a0_0, .int .i64 a0_1, .int .i64 a0_2, .int .i64 a0_3, .string a0_4, .bool a0_5]) (t := 96) ?hr ?_; (case hd => rfl); (case hg => rfl); (case hr => first | (go_simp; done) | (go_simp; rfl)); intro gb101 hg w4 hbox hb; have n0_ := Aside0.mk (below_step (by repeat (first | (with_reducible first | exact HB.out | apply below_alloc | apply pw_below_drewN | apply below_drew1) | exact HB.out)) hb); have n1_ := Aside0.mk (hbox); have n2_ := Aside0.mk ((by rw [hg]; exact (below_size (by repeat (first | (with_reducible first | exact HB.out | apply below_alloc | apply pw_below_drewN | apply below_drew1) | exact HB.out))) : w.heap.size ≤ gb101)); have n3_ := Aside0.mk ((by rw [hg]; exact (below_size (by repeat (first | (with_reducible first | exact HB.out | apply below_alloc | apply pw_below_drewN | apply below_drew1) | exact HB.out))) : w.heap.size ≤ gb101)); clear HB; have HB := n0_; have BK101 := n1_; have GW101 := n2_; have GE101 := n3_; clear n0_ n1_ n2_ n3_; clear hb hbox hg; have hcz5_0 : w4.cell? ⟨gb101, 0, none⟩ = some (.int .i64 a0_0) := (blk_cell BK101.out 0).trans rfl; have hcz5_1 : w4.cell? ⟨gb101, 1, none⟩ = some (.int .i64 a0_1) := (blk_cell BK101.out 1).trans rfl; have hcz5_2 : w4.cell? ⟨gb101, 2, none⟩ = some (.int .i64 a0_2) := (blk_cell BK101.out 2).trans rfl; have hcz5_3 : w4.cell? ⟨gb101, 3, none⟩ = some (.int .i64 a0_3) := (blk_cell BK101.out 3).trans rfl; have hcz5_4 : w4.cell? ⟨gb101, 4, none⟩ = some (.string a0_4) := (blk_cell BK101.out 4).trans rfl; have hcz5_5 : w4.cell? ⟨gb101, 5, none⟩ = some (.bool a0_5) := (blk_cell BK101.out 5).trans rfl; have hfz5_0 := blk_frozen BK101.out 0; have hfz5_1 := blk_frozen BK101.out 1; have hfz5_2 := blk_frozen BK101.out 2; have hfz5_3 := blk_frozen BK101.out 3; have hfz5_4 := blk_frozen BK101.out 4; have hfz5_5 := blk_frozen BK101.out 5))
    go_ret
    exact ⟨by first | rfl | (simp [errW_none, errW_some] <;> rfl) | (simp [*, errW_none, errW_some] <;> rfl), by repeat (first | (with_reducible first | exact HB.out | apply below_alloc | apply pw_below_drewN | apply below_drew1 | refine below_set ?_ GE101.out) | exact HB.out)⟩
  · rw [if_neg c3] at H
    have c3b0 : decide ((wrap64 (a1 - (a0_4.size : Int))) < 0) = false := decide_eq_false c3
    clear c3
    obtain rfl := Option.some.inj H
    go_enter Try.func69, Try.ntmps69
    go_wp2_with (first | ((with_reducible refine gate_dst (N := 2) rfl ?_); refine box_event ?hg (N := 2) ?hd (cs := #[.int .i64 a0_0, .int .i64 a0_1, .int .i64 a0_2, .int .i64 a0_3, .string a0_4, .bool a0_5]) (t := 96) ?hr ?_; (case hd => rfl); (case hg => rfl); (case hr => first | (go_simp; done) | (go_simp; rfl)); intro gb101 hg w6 hbox hb; have n0_ := Aside0.mk (below_step (by repeat (first | (with_reducible first | exact HB.out | apply below_alloc | apply pw_below_drewN | apply below_drew1) | exact HB.out)) hb); have n1_ := Aside0.mk (hbox); have n2_ := Aside0.mk ((by rw [hg]; exact (below_size (by repeat (first | (with_reducible first | exact HB.out | apply below_alloc | apply pw_below_drewN | apply below_drew1) | exact HB.out))) : w.heap.size ≤ gb101)); have n3_ := Aside0.mk ((by rw [hg]; exact (below_size (by repeat (first | (with_reducible first | exact HB.out | apply below_alloc | apply pw_below_drewN | apply below_drew1) | exact HB.out))) : w.heap.size ≤ gb101)); clear HB; have HB := n0_; have BK101 := n1_; have GW101 := n2_; have GE101 := n3_; clear n0_ n1_ n2_ n3_; clear hb hbox hg; have hcz7_0 : w6.cell? ⟨gb101, 0, none⟩ = some (.int .i64 a0_0) := (blk_cell BK101.out 0).trans rfl; have hcz7_1 : w6.cell? ⟨gb101, 1, none⟩ = some (.int .i64 a0_1) := (blk_cell BK101.out 1).trans rfl; have hcz7_2 : w6.cell? ⟨gb101, 2, none⟩ = some (.int .i64 a0_2) := (blk_cell BK101.out 2).trans rfl; have hcz7_3 : w6.cell? ⟨gb101, 3, none⟩ = some (.int .i64 a0_3) := (blk_cell BK101.out 3).trans rfl; have hcz7_4 : w6.cell? ⟨gb101, 4, none⟩ = some (.string a0_4) := (blk_cell BK101.out 4).trans rfl; have hcz7_5 : w6.cell? ⟨gb101, 5, none⟩ = some (.bool a0_5) := (blk_cell BK101.out 5).trans rfl; have hfz7_0 := blk_frozen BK101.out 0; have hfz7_1 := blk_frozen BK101.out 1; have hfz7_2 := blk_frozen BK101.out 2; have hfz7_3 := blk_frozen BK101.out 3; have hfz7_4 := blk_frozen BK101.out 4; have hfz7_5 := blk_frozen BK101.out 5))
    go_ret
    exact ⟨by first | rfl | (simp [errW_none, errW_some] <;> rfl) | (simp [*, errW_none, errW_some] <;> rfl), by repeat (first | (with_reducible first | exact HB.out | apply below_alloc | apply pw_below_drewN | apply below_drew1 | refine below_set ?_ GE101.out) | exact HB.out)⟩
/-! ### laws_szAtomS: function 40 -/
def laws_szAtomS.l0 : Nat → List (S96) → Int → Int → Option (Int)
  | 0, _, _, _ => none
  | k + 1, x0, x1, x5 => if x5 < (x0.length : Int) then (if 0 ≤ x5 then ((laws_szAtom.f ((rd_T96 x0 x5).f0) ((rd_T96 x0 x5).f1) ((rd_T96 x0 x5).f2) ((rd_T96 x0 x5).f3) ((rd_T96 x0 x5).f4) ((rd_T96 x0 x5).f5) x1).bind fun t102 => (if t102 < 0 then (some (-1)) else (laws_szAtomS.l0 k x0 t102 (wrap64 (x5 + 1))))) else (none)) else (some x1)
def laws_szAtomS.f (k : Nat) (l0 : List (S96)) (a1 : Int) : Option (Int) := if (wrap64 (a1 - (l0.length : Int))) < 0 then (some (-1)) else (laws_szAtomS.l0 k l0 (wrap64 (a1 - (l0.length : Int))) 0)
theorem laws_szAtomS.mono_l : ∀ k, (∀ y0 y1 y2, LeO (laws_szAtomS.l0 k y0 y1 y2) (laws_szAtomS.l0 (k + 1) y0 y1 y2))
  | 0 => fun _ _ _ r h => by simp [laws_szAtomS.l0] at h
  | k + 1 => by
    have ih0 := laws_szAtomS.mono_l k
    · intro y0 y1 y2
      unfold laws_szAtomS.l0
      repeat' first
      | (with_reducible exact ih0 _ _ _)
      | (with_reducible exact LeO.refl _)
      | (with_reducible exact LeO.none _)
      | (with_reducible refine LeO.ite ?_ ?_)
      | (with_reducible refine LeO.bind ?_ (fun _ => ?_))
      | exact ih0 _ _ _
      | exact LeO.none _
      | refine LeO.ite ?_ ?_
      | refine LeO.bind ?_ (fun _ => ?_)
theorem laws_szAtomS.mono : ∀ a0 a1 k, LeO (laws_szAtomS.f k a0 a1) (laws_szAtomS.f (k + 1) a0 a1) := by
  intro a0 a1 k
  have ih0 := laws_szAtomS.mono_l k
  unfold laws_szAtomS.f
  repeat' first
      | (with_reducible exact ih0 _ _ _)
      | (with_reducible exact LeO.refl _)
      | (with_reducible exact LeO.none _)
      | (with_reducible refine LeO.ite ?_ ?_)
      | (with_reducible refine LeO.bind ?_ (fun _ => ?_))
      | exact ih0 _ _ _
      | exact LeO.none _
      | refine LeO.ite ?_ ?_
      | refine LeO.bind ?_ (fun _ => ?_)
set_option maxHeartbeats 8000000 in
set_option maxRecDepth 100000 in
theorem laws_szAtomS.calls (k : Nat) (A0 : Option Addr) (c0 : Nat) (l0 : List (S96)) (a1 : Int) (r : Int) (w : World) (hr0 : Kd.C k96 w A0 l0.length l0) (hc0 : l0.length ≤ c0) (h : laws_szAtomS.f k l0 a1 = some r) :
    Calls Try.prog 40 #[.slice A0 l0.length c0, .int .i64 a1] w fun e w' => e = .returned (.int .i64 r) ∧ Below w.heap.size w w' := by
  have hu96 := Try.underlying96
  have HR0 := Aside0.mk hr0
  have HC0 := Aside0.mk hc0
  clear hr0 hc0
  have HB := Aside0.mk (Below.refl w.heap.size w)
  have H : (if (wrap64 (a1 - (l0.length : Int))) < 0 then (some (-1)) else (laws_szAtomS.l0 k l0 (wrap64 (a1 - (l0.length : Int))) 0)) = some r := h
  clear h
  by_cases c3 : (wrap64 (a1 - (l0.length : Int))) < 0
  · rw [if_pos c3] at H
    have c3b0 : decide ((wrap64 (a1 - (l0.length : Int))) < 0) = true := decide_eq_true c3
    clear c3
    obtain rfl := Option.some.inj H
    go_enter Try.func40, Try.ntmps40
    go_wp2
    go_ret
    exact ⟨by first | rfl | (simp [errW_none, errW_some] <;> rfl) | (simp [*, errW_none, errW_some] <;> rfl), by repeat (first | (with_reducible first | exact HB.out | apply below_alloc | apply pw_below_drewN | apply below_drew1) | exact HB.out)⟩
  · rw [if_neg c3] at H
    have c3b0 : decide ((wrap64 (a1 - (l0.length : Int))) < 0) = false := decide_eq_false c3
    clear c3
    have H' := Aside0.mk H
    clear H
    go_enter Try.func40, Try.ntmps40
    go_wp2
    go_loopg [1, 5] k (fun kq v1 v5 w' => ∃ (x1_1 : Int) (x5_1 : Int), v1 = .int .i64 x1_1 ∧ v5 = .int .i64 x5_1 ∧ Aside0 (laws_szAtomS.l0 kq l0 x1_1 x5_1 = some r) ∧ Aside0 (kq ≤ k) ∧ Aside0 (Below w.heap.size w w'))
    case atStart => exact ⟨(wrap64 (a1 - (l0.length : Int))), (0), (by first | rfl | (simp; done) | (simp [*]; done)), (by first | rfl | (simp; done) | (simp [*]; done)), H', ⟨Nat.le_refl _⟩, ⟨by repeat (first | (with_reducible first | exact HB.out | apply below_alloc | apply pw_below_drewN | apply below_drew1) | exact HB.out)⟩⟩
    case round =>
      clear H'
      try clear p2
      try clear c3
      try clear c3b0
      obtain ⟨x1_1, x5_1, rfl, rfl, HA, HK1, HB⟩ := hrel
      cases gk with
      | zero => exact absurd HA.out (by simp [laws_szAtomS.l0])
      | succ k1 =>
        have H := HA.out
        clear HA
        simp only [laws_szAtomS.l0] at H
        by_cases c4 : x5_1 < (l0.length : Int)
        · rw [if_pos c4] at H
          have c4b0 : decide (x5_1 < (l0.length : Int)) = true := decide_eq_true c4
          clear c4
          by_cases c5 : 0 ≤ x5_1
          · rw [if_pos c5] at H
            have c5b0 : decide (0 ≤ x5_1) = true := decide_eq_true c5
            clear c5
            replace H := Option.bind_eq_some_iff.mp H
            obtain ⟨t102, A60, H⟩ := H
            replace H : (if t102 < 0 then (some (-1)) else (laws_szAtomS.l0 k1 l0 t102 (wrap64 (x5_1 + 1)))) = some r := H
            have A6 := Aside0.mk A60
            clear A60
            by_cases c7 : t102 < 0
            · rw [if_pos c7] at H
              have c7b0 : decide (t102 < 0) = true := decide_eq_true c7
              clear c7
              obtain rfl := Option.some.inj H
              have p101 : 0 ≤ (x5_1 : Int) := of_decide_eq_true (by first | (with_reducible assumption) | assumption)
              have q101 : x5_1 < (l0.length : Int) := of_decide_eq_true (by first | (with_reducible assumption) | assumption)
              obtain ⟨ad101, e101, hx101_0, hx101_1, hx101_2, hx101_3, hx101_4, hx101_5⟩ := at_T96 HR0.out x5_1 p101 q101
              cases e101
              replace hx101_0 := (HB.out.cell (World.block_lt_of_cell? w _ hx101_0)).trans hx101_0
              replace hx101_1 := (HB.out.cell (World.block_lt_of_cell? w _ hx101_1)).trans hx101_1
              replace hx101_2 := (HB.out.cell (World.block_lt_of_cell? w _ hx101_2)).trans hx101_2
              replace hx101_3 := (HB.out.cell (World.block_lt_of_cell? w _ hx101_3)).trans hx101_3
              replace hx101_4 := (HB.out.cell (World.block_lt_of_cell? w _ hx101_4)).trans hx101_4
              replace hx101_5 := (HB.out.cell (World.block_lt_of_cell? w _ hx101_5)).trans hx101_5
              replace p101 := eq_true p101
              replace q101 := eq_true q101
              go_wp2_with (first | ((with_reducible refine gate_callee (f := 69) rfl ?_); refine goesL_ (some 23) rfl rfl Try.func69 (by kernel_rfl) rfl #[.agg #[.int .i64 ((rd_T96 l0 x5_1).f0), .int .i64 ((rd_T96 l0 x5_1).f1), .int .i64 ((rd_T96 l0 x5_1).f2), .int .i64 ((rd_T96 l0 x5_1).f3), .string ((rd_T96 l0 x5_1).f4), .bool ((rd_T96 l0 x5_1).f5)], .int .i64 x1_1] rfl (by (try simp only [List.map_toArray, List.map_cons, List.map_nil]); first | done | rfl | (simp only [List.length_drop, List.length_take]; rfl)) ?_; (with_reducible refine (laws_szAtom.calls ((rd_T96 l0 x5_1).f0) ((rd_T96 l0 x5_1).f1) ((rd_T96 l0 x5_1).f2) ((rd_T96 l0 x5_1).f3) ((rd_T96 l0 x5_1).f4) ((rd_T96 l0 x5_1).f5) x1_1 t102 _ A6.out).mono ?_); rintro e w8 ⟨rfl, hb⟩; refine ⟨_, rfl, ?_⟩; have n0_ := Aside0.mk (below_step (by repeat (first | (with_reducible first | exact HB.out | apply below_alloc | apply pw_below_drewN | apply below_drew1) | exact HB.out)) hb); clear HB; have HB := n0_; clear n0_; (try clear hb); (try clear hb2); (try clear hk); (try clear hi)))
              go_ret
              exact ⟨by first | rfl | (simp [errW_none, errW_some] <;> rfl) | (simp [*, errW_none, errW_some] <;> rfl), by repeat (first | (with_reducible first | exact HB.out | apply below_alloc | apply pw_below_drewN | apply below_drew1) | exact HB.out)⟩
            · rw [if_neg c7] at H
              have c7b0 : decide (t102 < 0) = false := decide_eq_false c7
              clear c7
              have H' := Aside0.mk H
              clear H
              have p101 : 0 ≤ (x5_1 : Int) := of_decide_eq_true (by first | (with_reducible assumption) | assumption)
              have q101 : x5_1 < (l0.length : Int) := of_decide_eq_true (by first | (with_reducible assumption) | assumption)
              obtain ⟨ad101, e101, hx101_0, hx101_1, hx101_2, hx101_3, hx101_4, hx101_5⟩ := at_T96 HR0.out x5_1 p101 q101
              cases e101
              replace hx101_0 := (HB.out.cell (World.block_lt_of_cell? w _ hx101_0)).trans hx101_0
              replace hx101_1 := (HB.out.cell (World.block_lt_of_cell? w _ hx101_1)).trans hx101_1
              replace hx101_2 := (HB.out.cell (World.block_lt_of_cell? w _ hx101_2)).trans hx101_2
              replace hx101_3 := (HB.out.cell (World.block_lt_of_cell? w _ hx101_3)).trans hx101_3
              replace hx101_4 := (HB.out.cell (World.block_lt_of_cell? w _ hx101_4)).trans hx101_4
              replace hx101_5 := (HB.out.cell (World.block_lt_of_cell? w _ hx101_5)).trans hx101_5
              replace p101 := eq_true p101
              replace q101 := eq_true q101
              go_wp2_with (first | ((with_reducible refine gate_callee (f := 69) rfl ?_); refine goesL_ (some 23) rfl rfl Try.func69 (by kernel_rfl) rfl #[.agg #[.int .i64 ((rd_T96 l0 x5_1).f0), .int .i64 ((rd_T96 l0 x5_1).f1), .int .i64 ((rd_T96 l0 x5_1).f2), .int .i64 ((rd_T96 l0 x5_1).f3), .string ((rd_T96 l0 x5_1).f4), .bool ((rd_T96 l0 x5_1).f5)], .int .i64 x1_1] rfl (by (try simp only [List.map_toArray, List.map_cons, List.map_nil]); first | done | rfl | (simp only [List.length_drop, List.length_take]; rfl)) ?_; (with_reducible refine (laws_szAtom.calls ((rd_T96 l0 x5_1).f0) ((rd_T96 l0 x5_1).f1) ((rd_T96 l0 x5_1).f2) ((rd_T96 l0 x5_1).f3) ((rd_T96 l0 x5_1).f4) ((rd_T96 l0 x5_1).f5) x1_1 t102 _ A6.out).mono ?_); rintro e w9 ⟨rfl, hb⟩; refine ⟨_, rfl, ?_⟩; have n0_ := Aside0.mk (below_step (by repeat (first | (with_reducible first | exact HB.out | apply below_alloc | apply pw_below_drewN | apply below_drew1) | exact HB.out)) hb); clear HB; have HB := n0_; clear n0_; (try clear hb); (try clear hb2); (try clear hk); (try clear hi)))
              go_roundg k1
              case measure => have := HK1.out; omega
              case rel => exact ⟨(t102), (wrap64 (x5_1 + 1)), (by first | rfl | (simp; done) | (simp [*]; done)), (by first | rfl | (simp; done) | (simp [*]; done)), H', ⟨by have := HK1.out; omega⟩, ⟨by repeat (first | (with_reducible first | exact HB.out | apply below_alloc | apply pw_below_drewN | apply below_drew1) | exact HB.out)⟩⟩
          · rw [if_neg c5] at H
            exact absurd H (by simp)
        · rw [if_neg c4] at H
          have c4b0 : decide (x5_1 < (l0.length : Int)) = false := decide_eq_false c4
          clear c4
          obtain rfl := Option.some.inj H
          go_wp2
          go_ret
          exact ⟨by first | rfl | (simp [errW_none, errW_some] <;> rfl) | (simp [*, errW_none, errW_some] <;> rfl), by repeat (first | (with_reducible first | exact HB.out | apply below_alloc | apply pw_below_drewN | apply below_drew1) | exact HB.out)⟩
/-! ### laws_szSeq: function 12 -/
def laws_szSeq.f (k : Nat) (l0_0 : List (S96)) (a1 : Int) : Option (Int) := (laws_szAtomS.f k l0_0 a1).bind fun t102 => (if t102 < 0 then (some (-1)) else (some t102))
theorem laws_szSeq.mono : ∀ a0 a1 k, LeO (laws_szSeq.f k a0 a1) (laws_szSeq.f (k + 1) a0 a1) := by
  intro a0 a1 k
  unfold laws_szSeq.f
  repeat' first
      | (with_reducible exact laws_szAtomS.mono _ _ _)
      | (with_reducible exact LeO.refl _)
      | (with_reducible exact LeO.none _)
      | (with_reducible refine LeO.ite ?_ ?_)
      | (with_reducible refine LeO.bind ?_ (fun _ => ?_))
      | exact laws_szAtomS.mono _ _ _
      | exact LeO.none _
      | refine LeO.ite ?_ ?_
      | refine LeO.bind ?_ (fun _ => ?_)
set_option maxHeartbeats 8000000 in
set_option maxRecDepth 100000 in
theorem laws_szSeq.calls (k : Nat) (A0_0 : Option Addr) (c0_0 : Nat) (l0_0 : List (S96)) (a1 : Int) (r : Int) (w : World) (hr0_0 : Kd.C k96 w A0_0 l0_0.length l0_0) (hc0_0 : l0_0.length ≤ c0_0) (h : laws_szSeq.f k l0_0 a1 = some r) :
    Calls Try.prog 12 #[.agg #[.slice A0_0 l0_0.length c0_0], .int .i64 a1] w fun e w' => e = .returned (.int .i64 r) ∧ Below w.heap.size w w' := by
  have hu24 := Try.underlying24
  have HR0_0 := Aside0.mk hr0_0
  have HC0_0 := Aside0.mk hc0_0
  clear hr0_0 hc0_0
  have HB := Aside0.mk (Below.refl w.heap.size w)
  have H : ((laws_szAtomS.f k l0_0 a1).bind fun t102 => (if t102 < 0 then (some (-1)) else (some t102))) = some r := h
  clear h
  replace H := Option.bind_eq_some_iff.mp H
  obtain ⟨t102, A30, H⟩ := H
  replace H : (if t102 < 0 then (some (-1)) else (some t102)) = some r := H
  have A3 := Aside0.mk A30
  clear A30
  by_cases c4 : t102 < 0
  · rw [if_pos c4] at H
    have c4b0 : decide (t102 < 0) = true := decide_eq_true c4
    clear c4
    obtain rfl := Option.some.inj H
    go_enter Try.func12, Try.ntmps12
    go_wp2_with (first | ((with_reducible refine gate_dst (N := 2) rfl ?_); refine box_event ?hg (N := 2) ?hd (cs := #[.slice A0_0 l0_0.length c0_0]) (t := 24) ?hr ?_; (case hd => rfl); (case hg => rfl); (case hr => first | (go_simp; done) | (go_simp; rfl)); intro gb101 hg w5 hbox hb; have n0_ := Aside0.mk (below_step (by repeat (first | (with_reducible first | exact HB.out | apply below_alloc | apply pw_below_drewN | apply below_drew1) | exact HB.out)) hb); have n1_ := Aside0.mk (hbox); have n2_ := Aside0.mk ((by rw [hg]; exact (below_size (by repeat (first | (with_reducible first | exact HB.out | apply below_alloc | apply pw_below_drewN | apply below_drew1) | exact HB.out))) : w.heap.size ≤ gb101)); have n3_ := Aside0.mk ((by rw [hg]; exact (below_size (by repeat (first | (with_reducible first | exact HB.out | apply below_alloc | apply pw_below_drewN | apply below_drew1) | exact HB.out))) : w.heap.size ≤ gb101)); clear HB; have HB := n0_; have BK101 := n1_; have GW101 := n2_; have GE101 := n3_; clear n0_ n1_ n2_ n3_; clear hb hbox hg; have hcz6_0 : w5.cell? ⟨gb101, 0, none⟩ = some (.slice A0_0 l0_0.length c0_0) := (blk_cell BK101.out 0).trans rfl; have hfz6_0 := blk_frozen BK101.out 0) | ((with_reducible refine gate_callee (f := 40) rfl ?_); refine goesL_ (some 8) rfl rfl Try.func40 (by kernel_rfl) rfl #[.slice A0_0 l0_0.length c0_0, .int .i64 a1] rfl (by (try simp only [List.map_toArray, List.map_cons, List.map_nil]); first | done | rfl | (simp only [List.length_drop, List.length_take]; rfl)) ?_; (with_reducible refine (laws_szAtomS.calls k _ _ l0_0 a1 t102 _ ?side1 ?side2 A3.out).mono ?_); (case side1 => repeat (first | exact (Kd.C_below HR0_0.out HB.out) | (with_reducible refine Kd.C_alloc ?_ _) | (with_reducible refine Kd.C_drewN ?_ _) | (with_reducible refine Kd.C_drew ?_))); (case side2 => exact HC0_0.out); rintro e w7 ⟨rfl, hb⟩; refine ⟨_, rfl, ?_⟩; have n0_ := Aside0.mk (blk_below (g := gb101) (o := .cells #[.slice A0_0 l0_0.length c0_0] 24 (0, 0)) (by (with_reducible repeat (first | refine blk_drewN ?_ _ | refine blk_drew ?_ | refine blk_alloc ?_ _)); exact BK101.out) hb); have n1_ := Aside0.mk (below_step (by repeat (first | (with_reducible first | exact HB.out | apply below_alloc | apply pw_below_drewN | apply below_drew1 | refine below_set ?_ GE101.out) | exact HB.out)) hb); clear BK101; clear HB; have BK101 := n0_; have HB := n1_; clear n0_ n1_; (try clear hb); (try clear hb2); (try clear hk); (try clear hi)))
    go_ret
    exact ⟨by first | rfl | (simp [errW_none, errW_some] <;> rfl) | (simp [*, errW_none, errW_some] <;> rfl), by repeat (first | (with_reducible first | exact HB.out | apply below_alloc | apply pw_below_drewN | apply below_drew1 | refine below_set ?_ GE101.out) | exact HB.out)⟩
  · rw [if_neg c4] at H
    have c4b0 : decide (t102 < 0) = false := decide_eq_false c4
    clear c4
    obtain rfl := Option.some.inj H
    go_enter Try.func12, Try.ntmps12
    go_wp2_with (first | ((with_reducible refine gate_dst (N := 2) rfl ?_); refine box_event ?hg (N := 2) ?hd (cs := #[.slice A0_0 l0_0.length c0_0]) (t := 24) ?hr ?_; (case hd => rfl); (case hg => rfl); (case hr => first | (go_simp; done) | (go_simp; rfl)); intro gb101 hg w8 hbox hb; have n0_ := Aside0.mk (below_step (by repeat (first | (with_reducible first | exact HB.out | apply below_alloc | apply pw_below_drewN | apply below_drew1) | exact HB.out)) hb); have n1_ := Aside0.mk (hbox); have n2_ := Aside0.mk ((by rw [hg]; exact (below_size (by repeat (first | (with_reducible first | exact HB.out | apply below_alloc | apply pw_below_drewN | apply below_drew1) | exact HB.out))) : w.heap.size ≤ gb101)); have n3_ := Aside0.mk ((by rw [hg]; exact (below_size (by repeat (first | (with_reducible first | exact HB.out | apply below_alloc | apply pw_below_drewN | apply below_drew1) | exact HB.out))) : w.heap.size ≤ gb101)); clear HB; have HB := n0_; have BK101 := n1_; have GW101 := n2_; have GE101 := n3_; clear n0_ n1_ n2_ n3_; clear hb hbox hg; have hcz9_0 : w8.cell? ⟨gb101, 0, none⟩ = some (.slice A0_0 l0_0.length c0_0) := (blk_cell BK101.out 0).trans rfl; have hfz9_0 := blk_frozen BK101.out 0) | ((with_reducible refine gate_callee (f := 40) rfl ?_); refine goesL_ (some 8) rfl rfl Try.func40 (by kernel_rfl) rfl #[.slice A0_0 l0_0.length c0_0, .int .i64 a1] rfl (by (try simp only [List.map_toArray, List.map_cons, List.map_nil]); first | done | rfl | (simp only [List.length_drop, List.length_take]; rfl)) ?_; (with_reducible refine (laws_szAtomS.calls k _ _ l0_0 a1 t102 _ ?side1 ?side2 A3.out).mono ?_); (case side1 => repeat (first | exact (Kd.C_below HR0_0.out HB.out) | (with_reducible refine Kd.C_alloc ?_ _) | (with_reducible refine Kd.C_drewN ?_ _) | (with_reducible refine Kd.C_drew ?_))); (case side2 => exact HC0_0.out); rintro e w10 ⟨rfl, hb⟩; refine ⟨_, rfl, ?_⟩; have n0_ := Aside0.mk (blk_below (g := gb101) (o := .cells #[.slice A0_0 l0_0.length c0_0] 24 (0, 0)) (by (with_reducible repeat (first | refine blk_drewN ?_ _ | refine blk_drew ?_ | refine blk_alloc ?_ _)); exact BK101.out) hb); have n1_ := Aside0.mk (below_step (by repeat (first | (with_reducible first | exact HB.out | apply below_alloc | apply pw_below_drewN | apply below_drew1 | refine below_set ?_ GE101.out) | exact HB.out)) hb); clear BK101; clear HB; have BK101 := n0_; have HB := n1_; clear n0_ n1_; (try clear hb); (try clear hb2); (try clear hk); (try clear hi)))
    go_ret
    exact ⟨by first | rfl | (simp [errW_none, errW_some] <;> rfl) | (simp [*, errW_none, errW_some] <;> rfl), by repeat (first | (with_reducible first | exact HB.out | apply below_alloc | apply pw_below_drewN | apply below_drew1 | refine below_set ?_ GE101.out) | exact HB.out)⟩
/-! ### spec_l1In: function 41 -/
def spec_l1In.f (a0 : Int) (a1 : Int) (a2 : Int) : Option (Bool) := if a0 ≥ a1 then (some (decide (a0 ≤ a2))) else (some false)
set_option maxHeartbeats 8000000 in
set_option maxRecDepth 100000 in
theorem spec_l1In.calls (a0 : Int) (a1 : Int) (a2 : Int) (r : Bool) (w : World) (h : spec_l1In.f a0 a1 a2 = some r) :
    Calls Try.prog 41 #[.int .i64 a0, .int .i64 a1, .int .i64 a2] w fun e w' => e = .returned (.bool r) ∧ Drawn0 w w' := by
  have H : (if a0 ≥ a1 then (some (decide (a0 ≤ a2))) else (some false)) = some r := h
  clear h
  by_cases c4 : a0 ≥ a1
  · rw [if_pos c4] at H
    have c4b0 : decide (a1 ≤ a0) = true := decide_eq_true c4
    clear c4
    obtain rfl := Option.some.inj H
    go_enter Try.func41, Try.ntmps41
    go_wp2
    go_ret
    exact ⟨by first | rfl | (simp; done) | (simp [*]; done), by repeat (first | exact Drawn0.refl _ | apply Drawn0.step)⟩
  · rw [if_neg c4] at H
    have c4b0 : decide (a1 ≤ a0) = false := decide_eq_false c4
    clear c4
    obtain rfl := Option.some.inj H
    go_enter Try.func41, Try.ntmps41
    go_wp2
    go_ret
    exact ⟨by first | rfl | (simp; done) | (simp [*]; done), by repeat (first | exact Drawn0.refl _ | apply Drawn0.step)⟩
/-! ### spec_l17Less: function 43 -/
def spec_l17Less.f (a0_0 : Int) (a0_1 : Int) (a0_2 : Int) (a0_3 : Int) (a0_4 : ByteArray) (a0_5 : Bool) (a1_0 : Int) (a1_1 : Int) (a1_2 : Int) (a1_3 : Int) (a1_4 : ByteArray) (a1_5 : Bool) : Option (Bool) := if a0_0 < a1_0 then (some true) else (if a0_0 = a1_0 then (some (decide (a0_1 < a1_1))) else (some false))
set_option maxHeartbeats 8000000 in
set_option maxRecDepth 100000 in
theorem spec_l17Less.calls (a0_0 : Int) (a0_1 : Int) (a0_2 : Int) (a0_3 : Int) (a0_4 : ByteArray) (a0_5 : Bool) (a1_0 : Int) (a1_1 : Int) (a1_2 : Int) (a1_3 : Int) (a1_4 : ByteArray) (a1_5 : Bool) (r : Bool) (w : World) (h : spec_l17Less.f a0_0 a0_1 a0_2 a0_3 a0_4 a0_5 a1_0 a1_1 a1_2 a1_3 a1_4 a1_5 = some r) :
    Calls Try.prog 43 #[.agg #[.int .i64 a0_0, .int .i64 a0_1, .int .i64 a0_2, .int .i64 a0_3, .string a0_4, .bool a0_5], .agg #[.int .i64 a1_0, .int .i64 a1_1, .int .i64 a1_2, .int .i64 a1_3, .string a1_4, .bool a1_5]] w fun e w' => e = .returned (.bool r) ∧ Below w.heap.size w w' := by
  have hu61 := Try.underlying61
  have HB := Aside0.mk (Below.refl w.heap.size w)
  have H : (if a0_0 < a1_0 then (some true) else (if a0_0 = a1_0 then (some (decide (a0_1 < a1_1))) else (some false))) = some r := h
  clear h
  by_cases c3 : a0_0 < a1_0
  · rw [if_pos c3] at H
    have c3b0 : decide (a0_0 < a1_0) = true := decide_eq_true c3
    clear c3
    obtain rfl := Option.some.inj H
    go_enter Try.func43, Try.ntmps43
    go_wp2_with (first | ((with_reducible refine gate_dst (N := 2) rfl ?_); refine box_event ?hg (N := 2) ?hd (cs := #[.int .i64 a0_0, .int .i64 a0_1, .int .i64 a0_2, .int .i64 a0_3, .string a0_4, .bool a0_5]) (t := 61) ?hr ?_; (case hd => rfl); (case hg => rfl); (case hr => first | (go_simp; done) | (go_simp; rfl)); intro gb101 hg w4 hbox hb; have n0_ := Aside0.mk (below_step (by repeat (first | (with_reducible first | exact HB.out | apply below_alloc | apply pw_below_drewN | apply below_drew1) | exact HB.out)) hb); have n1_ := Aside0.mk (hbox); have n2_ := Aside0.mk ((by rw [hg]; exact (below_size (by repeat (first | (with_reducible first | exact HB.out | apply below_alloc | apply pw_below_drewN | apply below_drew1) | exact HB.out))) : w.heap.size ≤ gb101)); have n3_ := Aside0.mk ((by rw [hg]; exact (below_size (by repeat (first | (with_reducible first | exact HB.out | apply below_alloc | apply pw_below_drewN | apply below_drew1) | exact HB.out))) : w.heap.size ≤ gb101)); clear HB; have HB := n0_; have BK101 := n1_; have GW101 := n2_; have GE101 := n3_; clear n0_ n1_ n2_ n3_; clear hb hbox hg) | ((with_reducible refine gate_dst (N := 3) rfl ?_); refine box_event ?hg (N := 3) ?hd (cs := #[.int .i64 a1_0, .int .i64 a1_1, .int .i64 a1_2, .int .i64 a1_3, .string a1_4, .bool a1_5]) (t := 61) ?hr ?_; (case hd => rfl); (case hg => rfl); (case hr => first | (go_simp; done) | (go_simp; rfl)); intro gb102 hg w5 hbox hb; have n0_ := Aside0.mk (blk_below (g := gb101) (o := .cells #[.int .i64 a0_0, .int .i64 a0_1, .int .i64 a0_2, .int .i64 a0_3, .string a0_4, .bool a0_5] 61 (0, 0)) (by (with_reducible repeat (first | refine blk_drewN ?_ _ | refine blk_drew ?_ | refine blk_alloc ?_ _)); exact BK101.out) hb); have n1_ := Aside0.mk (below_step (by repeat (first | (with_reducible first | exact HB.out | apply below_alloc | apply pw_below_drewN | apply below_drew1 | refine below_set ?_ GE101.out) | exact HB.out)) hb); have n2_ := Aside0.mk (hbox); have n3_ := Aside0.mk ((by rw [hg]; exact (below_size (by repeat (first | (with_reducible first | exact HB.out | apply below_alloc | apply pw_below_drewN | apply below_drew1 | refine below_set ?_ GE101.out) | exact HB.out))) : w.heap.size ≤ gb102)); have n4_ := Aside0.mk ((by rw [hg]; exact (below_size (by repeat (first | (with_reducible first | exact HB.out | apply below_alloc | apply pw_below_drewN | apply below_drew1 | refine below_set ?_ GE101.out) | exact HB.out))) : w.heap.size ≤ gb102)); have n5_ := Aside0.mk ((by rw [hg]; exact Nat.ne_of_lt (blk_lt (g := gb101) (o := .cells #[.int .i64 a0_0, .int .i64 a0_1, .int .i64 a0_2, .int .i64 a0_3, .string a0_4, .bool a0_5] 61 (0, 0)) (by (with_reducible repeat (first | refine blk_drewN ?_ _ | refine blk_drew ?_ | refine blk_alloc ?_ _)); exact BK101.out)) : gb101 ≠ gb102)); have n6_ := Aside0.mk ((by rw [hg]; exact Nat.ne_of_gt (blk_lt (g := gb101) (o := .cells #[.int .i64 a0_0, .int .i64 a0_1, .int .i64 a0_2, .int .i64 a0_3, .string a0_4, .bool a0_5] 61 (0, 0)) (by (with_reducible repeat (first | refine blk_drewN ?_ _ | refine blk_drew ?_ | refine blk_alloc ?_ _)); exact BK101.out)) : gb102 ≠ gb101)); clear BK101; clear HB; have BK101 := n0_; have HB := n1_; have BK102 := n2_; have GW102 := n3_; have GE102 := n4_; have NB101_102 := n5_; have NB102_101 := n6_; clear n0_ n1_ n2_ n3_ n4_ n5_ n6_; clear hb hbox hg; have hnb6 := NB101_102.out; have hnc6 := NB102_101.out; have hcz7_0 : w5.cell? ⟨gb101, 0, none⟩ = some (.int .i64 a0_0) := (blk_cell BK101.out 0).trans rfl; have hcz7_1 : w5.cell? ⟨gb101, 1, none⟩ = some (.int .i64 a0_1) := (blk_cell BK101.out 1).trans rfl; have hcz7_2 : w5.cell? ⟨gb101, 2, none⟩ = some (.int .i64 a0_2) := (blk_cell BK101.out 2).trans rfl; have hcz7_3 : w5.cell? ⟨gb101, 3, none⟩ = some (.int .i64 a0_3) := (blk_cell BK101.out 3).trans rfl; have hcz7_4 : w5.cell? ⟨gb101, 4, none⟩ = some (.string a0_4) := (blk_cell BK101.out 4).trans rfl; have hcz7_5 : w5.cell? ⟨gb101, 5, none⟩ = some (.bool a0_5) := (blk_cell BK101.out 5).trans rfl; have hfz7_0 := blk_frozen BK101.out 0; have hfz7_1 := blk_frozen BK101.out 1; have hfz7_2 := blk_frozen BK101.out 2; have hfz7_3 := blk_frozen BK101.out 3; have hfz7_4 := blk_frozen BK101.out 4; have hfz7_5 := blk_frozen BK101.out 5; have hcz8_0 : w5.cell? ⟨gb102, 0, none⟩ = some (.int .i64 a1_0) := (blk_cell BK102.out 0).trans rfl; have hcz8_1 : w5.cell? ⟨gb102, 1, none⟩ = some (.int .i64 a1_1) := (blk_cell BK102.out 1).trans rfl; have hcz8_2 : w5.cell? ⟨gb102, 2, none⟩ = some (.int .i64 a1_2) := (blk_cell BK102.out 2).trans rfl; have hcz8_3 : w5.cell? ⟨gb102, 3, none⟩ = some (.int .i64 a1_3) := (blk_cell BK102.out 3).trans rfl; have hcz8_4 : w5.cell? ⟨gb102, 4, none⟩ = some (.string a1_4) := (blk_cell BK102.out 4).trans rfl; have hcz8_5 : w5.cell? ⟨gb102, 5, none⟩ = some (.bool a1_5) := (blk_cell BK102.out 5).trans rfl; have hfz8_0 := blk_frozen BK102.out 0; have hfz8_1 := blk_frozen BK102.out 1; have hfz8_2 := blk_frozen BK102.out 2; have hfz8_3 := blk_frozen BK102.out 3; have hfz8_4 := blk_frozen BK102.out 4; have hfz8_5 := blk_frozen BK102.out 5))
    go_ret
    exact ⟨by first | rfl | (simp [errW_none, errW_some] <;> rfl) | (simp [*, errW_none, errW_some] <;> rfl), by repeat (first | (with_reducible first | exact HB.out | apply below_alloc | apply pw_below_drewN | apply below_drew1 | refine below_set ?_ GE101.out | refine below_set ?_ GE102.out) | exact HB.out)⟩
  · rw [if_neg c3] at H
    have c3b0 : decide (a0_0 < a1_0) = false := decide_eq_false c3
    clear c3
    by_cases c9 : a0_0 = a1_0
    · rw [if_pos c9] at H
      have c9b0 : (a0_0 == a1_0) = true := beq_iff_eq.mpr c9
      have c9b1 : (a0_0 != a1_0) = false := bne_eq_false_iff_eq.mpr c9
      clear c9
      obtain rfl := Option.some.inj H
      go_enter Try.func43, Try.ntmps43
      go_wp2_with (first | ((with_reducible refine gate_dst (N := 2) rfl ?_); refine box_event ?hg (N := 2) ?hd (cs := #[.int .i64 a0_0, .int .i64 a0_1, .int .i64 a0_2, .int .i64 a0_3, .string a0_4, .bool a0_5]) (t := 61) ?hr ?_; (case hd => rfl); (case hg => rfl); (case hr => first | (go_simp; done) | (go_simp; rfl)); intro gb101 hg w10 hbox hb; have n0_ := Aside0.mk (below_step (by repeat (first | (with_reducible first | exact HB.out | apply below_alloc | apply pw_below_drewN | apply below_drew1) | exact HB.out)) hb); have n1_ := Aside0.mk (hbox); have n2_ := Aside0.mk ((by rw [hg]; exact (below_size (by repeat (first | (with_reducible first | exact HB.out | apply below_alloc | apply pw_below_drewN | apply below_drew1) | exact HB.out))) : w.heap.size ≤ gb101)); have n3_ := Aside0.mk ((by rw [hg]; exact (below_size (by repeat (first | (with_reducible first | exact HB.out | apply below_alloc | apply pw_below_drewN | apply below_drew1) | exact HB.out))) : w.heap.size ≤ gb101)); clear HB; have HB := n0_; have BK101 := n1_; have GW101 := n2_; have GE101 := n3_; clear n0_ n1_ n2_ n3_; clear hb hbox hg) | ((with_reducible refine gate_dst (N := 3) rfl ?_); refine box_event ?hg (N := 3) ?hd (cs := #[.int .i64 a1_0, .int .i64 a1_1, .int .i64 a1_2, .int .i64 a1_3, .string a1_4, .bool a1_5]) (t := 61) ?hr ?_; (case hd => rfl); (case hg => rfl); (case hr => first | (go_simp; done) | (go_simp; rfl)); intro gb102 hg w11 hbox hb; have n0_ := Aside0.mk (blk_below (g := gb101) (o := .cells #[.int .i64 a0_0, .int .i64 a0_1, .int .i64 a0_2, .int .i64 a0_3, .string a0_4, .bool a0_5] 61 (0, 0)) (by (with_reducible repeat (first | refine blk_drewN ?_ _ | refine blk_drew ?_ | refine blk_alloc ?_ _)); exact BK101.out) hb); have n1_ := Aside0.mk (below_step (by repeat (first | (with_reducible first | exact HB.out | apply below_alloc | apply pw_below_drewN | apply below_drew1 | refine below_set ?_ GE101.out) | exact HB.out)) hb); have n2_ := Aside0.mk (hbox); have n3_ := Aside0.mk ((by rw [hg]; exact (below_size (by repeat (first | (with_reducible first | exact HB.out | apply below_alloc | apply pw_below_drewN | apply below_drew1 | refine below_set ?_ GE101.out) | exact HB.out))) : w.heap.size ≤ gb102)); have n4_ := Aside0.mk ((by rw [hg]; exact (below_size (by repeat (first | (with_reducible first | exact HB.out | apply below_alloc | apply pw_below_drewN | apply below_drew1 | refine below_set ?_ GE101.out) | exact HB.out))) : w.heap.size ≤ gb102)); have n5_ := Aside0.mk ((by rw [hg]; exact Nat.ne_of_lt (blk_lt (g := gb101) (o := .cells #[.int .i64 a0_0, .int .i64 a0_1, .int .i64 a0_2, .int .i64 a0_3, .string a0_4, .bool a0_5] 61 (0, 0)) (by (with_reducible repeat (first | refine blk_drewN ?_ _ | refine blk_drew ?_ | refine blk_alloc ?_ _)); exact BK101.out)) : gb101 ≠ gb102)); have n6_ := Aside0.mk ((by rw [hg]; exact Nat.ne_of_gt (blk_lt (g := gb101) (o := .cells #[.int .i64 a0_0, .int .i64 a0_1, .int .i64 a0_2, .int .i64 a0_3, .string a0_4, .bool a0_5] 61 (0, 0)) (by (with_reducible repeat (first | refine blk_drewN ?_ _ | refine blk_drew ?_ | refine blk_alloc ?_ _)); exact BK101.out)) : gb102 ≠ gb101)); clear BK101; clear HB; have BK101 := n0_; have HB := n1_; have BK102 := n2_; have GW102 := n3_; have GE102 := n4_; have NB101_102 := n5_; have NB102_101 := n6_; clear n0_ n1_ n2_ n3_ n4_ n5_ n6_; clear hb hbox hg; have hnb12 := NB101_102.out; have hnc12 := NB102_101.out; have hcz13_0 : w11.cell? ⟨gb101, 0, none⟩ = some (.int .i64 a0_0) := (blk_cell BK101.out 0).trans rfl; have hcz13_1 : w11.cell? ⟨gb101, 1, none⟩ = some (.int .i64 a0_1) := (blk_cell BK101.out 1).trans rfl; have hcz13_2 : w11.cell? ⟨gb101, 2, none⟩ = some (.int .i64 a0_2) := (blk_cell BK101.out 2).trans rfl; have hcz13_3 : w11.cell? ⟨gb101, 3, none⟩ = some (.int .i64 a0_3) := (blk_cell BK101.out 3).trans rfl; have hcz13_4 : w11.cell? ⟨gb101, 4, none⟩ = some (.string a0_4) := (blk_cell BK101.out 4).trans rfl; have hcz13_5 : w11.cell? ⟨gb101, 5, none⟩ = some (.bool a0_5) := (blk_cell BK101.out 5).trans rfl; have hfz13_0 := blk_frozen BK101.out 0; have hfz13_1 := blk_frozen BK101.out 1; have hfz13_2 := blk_frozen BK101.out 2; have hfz13_3 := blk_frozen BK101.out 3; have hfz13_4 := blk_frozen BK101.out 4; have hfz13_5 := blk_frozen BK101.out 5; have hcz14_0 : w11.cell? ⟨gb102, 0, none⟩ = some (.int .i64 a1_0) := (blk_cell BK102.out 0).trans rfl; have hcz14_1 : w11.cell? ⟨gb102, 1, none⟩ = some (.int .i64 a1_1) := (blk_cell BK102.out 1).trans rfl; have hcz14_2 : w11.cell? ⟨gb102, 2, none⟩ = some (.int .i64 a1_2) := (blk_cell BK102.out 2).trans rfl; have hcz14_3 : w11.cell? ⟨gb102, 3, none⟩ = some (.int .i64 a1_3) := (blk_cell BK102.out 3).trans rfl; have hcz14_4 : w11.cell? ⟨gb102, 4, none⟩ = some (.string a1_4) := (blk_cell BK102.out 4).trans rfl; have hcz14_5 : w11.cell? ⟨gb102, 5, none⟩ = some (.bool a1_5) := (blk_cell BK102.out 5).trans rfl; have hfz14_0 := blk_frozen BK102.out 0; have hfz14_1 := blk_frozen BK102.out 1; have hfz14_2 := blk_frozen BK102.out 2; have hfz14_3 := blk_frozen BK102.out 3; have hfz14_4 := blk_frozen BK102.out 4; have hfz14_5 := blk_frozen BK102.out 5))
      go_ret
      exact ⟨by first | rfl | (simp [errW_none, errW_some] <;> rfl) | (simp [*, errW_none, errW_some] <;> rfl), by repeat (first | (with_reducible first | exact HB.out | apply below_alloc | apply pw_below_drewN | apply below_drew1 | refine below_set ?_ GE101.out | refine below_set ?_ GE102.out) | exact HB.out)⟩
    · rw [if_neg c9] at H
      have c9b0 : (a0_0 == a1_0) = false := beq_eq_false_iff_ne.mpr c9
      have c9b1 : (a0_0 != a1_0) = true := bne_iff_ne.mpr c9
      obtain rfl := Option.some.inj H
      go_enter Try.func43, Try.ntmps43
      go_wp2_with (first | ((with_reducible refine gate_dst (N := 2) rfl ?_); refine box_event ?hg (N := 2) ?hd (cs := #[.int .i64 a0_0, .int .i64 a0_1, .int .i64 a0_2, .int .i64 a0_3, .string a0_4, .bool a0_5]) (t := 61) ?hr ?_; (case hd => rfl); (case hg => rfl); (case hr => first | (go_simp; done) | (go_simp; rfl)); intro gb101 hg w15 hbox hb; have n0_ := Aside0.mk (below_step (by repeat (first | (with_reducible first | exact HB.out | apply below_alloc | apply pw_below_drewN | apply below_drew1) | exact HB.out)) hb); have n1_ := Aside0.mk (hbox); have n2_ := Aside0.mk ((by rw [hg]; exact (below_size (by repeat (first | (with_reducible first | exact HB.out | apply below_alloc | apply pw_below_drewN | apply below_drew1) | exact HB.out))) : w.heap.size ≤ gb101)); have n3_ := Aside0.mk ((by rw [hg]; exact (below_size (by repeat (first | (with_reducible first | exact HB.out | apply below_alloc | apply pw_below_drewN | apply below_drew1) | exact HB.out))) : w.heap.size ≤ gb101)); clear HB; have HB := n0_; have BK101 := n1_; have GW101 := n2_; have GE101 := n3_; clear n0_ n1_ n2_ n3_; clear hb hbox hg) | ((with_reducible refine gate_dst (N := 3) rfl ?_); refine box_event ?hg (N := 3) ?hd (cs := #[.int .i64 a1_0, .int .i64 a1_1, .int .i64 a1_2, .int .i64 a1_3, .string a1_4, .bool a1_5]) (t := 61) ?hr ?_; (case hd => rfl); (case hg => rfl); (case hr => first | (go_simp; done) | (go_simp; rfl)); intro gb102 hg w16 hbox hb; have n0_ := Aside0.mk (blk_below (g := gb101) (o := .cells #[.int .i64 a0_0, .int .i64 a0_1, .int .i64 a0_2, .int .i64 a0_3, .string a0_4, .bool a0_5] 61 (0, 0)) (by (with_reducible repeat (first | refine blk_drewN ?_ _ | refine blk_drew ?_ | refine blk_alloc ?_ _)); exact BK101.out) hb); have n1_ := Aside0.mk (below_step (by repeat (first | (with_reducible first | exact HB.out | apply below_alloc | apply pw_below_drewN | apply below_drew1 | refine below_set ?_ GE101.out) | exact HB.out)) hb); have n2_ := Aside0.mk (hbox); have n3_ := Aside0.mk ((by rw [hg]; exact (below_size (by repeat (first | (with_reducible first | exact HB.out | apply below_alloc | apply pw_below_drewN | apply below_drew1 | refine below_set ?_ GE101.out) | exact HB.out))) : w.heap.size ≤ gb102)); have n4_ := Aside0.mk ((by rw [hg]; exact (below_size (by repeat (first | (with_reducible first | exact HB.out | apply below_alloc | apply pw_below_drewN | apply below_drew1 | refine below_set ?_ GE101.out) | exact HB.out))) : w.heap.size ≤ gb102)); have n5_ := Aside0.mk ((by rw [hg]; exact Nat.ne_of_lt (blk_lt (g := gb101) (o := .cells #[.int .i64 a0_0, .int .i64 a0_1, .int .i64 a0_2, .int .i64 a0_3, .string a0_4, .bool a0_5] 61 (0, 0)) (by (with_reducible repeat (first | refine blk_drewN ?_ _ | refine blk_drew ?_ | refine blk_alloc ?_ _)); exact BK101.out)) : gb101 ≠ gb102)); have n6_ := Aside0.mk ((by rw [hg]; exact Nat.ne_of_gt (blk_lt (g := gb101) (o := .cells #[.int .i64 a0_0, .int .i64 a0_1, .int .i64 a0_2, .int .i64 a0_3, .string a0_4, .bool a0_5] 61 (0, 0)) (by (with_reducible repeat (first | refine blk_drewN ?_ _ | refine blk_drew ?_ | refine blk_alloc ?_ _)); exact BK101.out)) : gb102 ≠ gb101)); clear BK101; clear HB; have BK101 := n0_; have HB := n1_; have BK102 := n2_; have GW102 := n3_; have GE102 := n4_; have NB101_102 := n5_; have NB102_101 := n6_; clear n0_ n1_ n2_ n3_ n4_ n5_ n6_; clear hb hbox hg; have hnb17 := NB101_102.out; have hnc17 := NB102_101.out; have hcz18_0 : w16.cell? ⟨gb101, 0, none⟩ = some (.int .i64 a0_0) := (blk_cell BK101.out 0).trans rfl; have hcz18_1 : w16.cell? ⟨gb101, 1, none⟩ = some (.int .i64 a0_1) := (blk_cell BK101.out 1).trans rfl; have hcz18_2 : w16.cell? ⟨gb101, 2, none⟩ = some (.int .i64 a0_2) := (blk_cell BK101.out 2).trans rfl; have hcz18_3 : w16.cell? ⟨gb101, 3, none⟩ = some (.int .i64 a0_3) := (blk_cell BK101.out 3).trans rfl; have hcz18_4 : w16.cell? ⟨gb101, 4, none⟩ = some (.string a0_4) := (blk_cell BK101.out 4).trans rfl; have hcz18_5 : w16.cell? ⟨gb101, 5, none⟩ = some (.bool a0_5) := (blk_cell BK101.out 5).trans rfl; have hfz18_0 := blk_frozen BK101.out 0; have hfz18_1 := blk_frozen BK101.out 1; have hfz18_2 := blk_frozen BK101.out 2; have hfz18_3 := blk_frozen BK101.out 3; have hfz18_4 := blk_frozen BK101.out 4; have hfz18_5 := blk_frozen BK101.out 5; have hcz19_0 : w16.cell? ⟨gb102, 0, none⟩ = some (.int .i64 a1_0) := (blk_cell BK102.out 0).trans rfl; have hcz19_1 : w16.cell? ⟨gb102, 1, none⟩ = some (.int .i64 a1_1) := (blk_cell BK102.out 1).trans rfl; have hcz19_2 : w16.cell? ⟨gb102, 2, none⟩ = some (.int .i64 a1_2) := (blk_cell BK102.out 2).trans rfl; have hcz19_3 : w16.cell? ⟨gb102, 3, none⟩ = some (.int .i64 a1_3) := (blk_cell BK102.out 3).trans rfl; have hcz19_4 : w16.cell? ⟨gb102, 4, none⟩ = some (.string a1_4) := (blk_cell BK102.out 4).trans rfl; have hcz19_5 : w16.cell? ⟨gb102, 5, none⟩ = some (.bool a1_5) := (blk_cell BK102.out 5).trans rfl; have hfz19_0 := blk_frozen BK102.out 0; have hfz19_1 := blk_frozen BK102.out 1; have hfz19_2 := blk_frozen BK102.out 2; have hfz19_3 := blk_frozen BK102.out 3; have hfz19_4 := blk_frozen BK102.out 4; have hfz19_5 := blk_frozen BK102.out 5))
      go_ret
      exact ⟨by first | rfl | (simp [errW_none, errW_some] <;> rfl) | (simp [*, errW_none, errW_some] <;> rfl), by repeat (first | (with_reducible first | exact HB.out | apply below_alloc | apply pw_below_drewN | apply below_drew1 | refine below_set ?_ GE101.out | refine below_set ?_ GE102.out) | exact HB.out)⟩
/-! ### spec_l17At: function 44 -/
def spec_l17At.l0 : Nat → Int → Int → List (S61) → Int → Int → Option (Int)
  | 0, _, _, _, _, _ => none
  | k + 1, x1, x2, x9, x10, x11 => if x11 < x10 then (if 0 ≤ x11 then (if x11 < (x9.length : Int) then (if ((rd_T61 x9 x11).f0) = x1 then (if ((rd_T61 x9 x11).f1) = x2 then (some x11) else (spec_l17At.l0 k x1 x2 x9 x10 (wrap64 (x11 + 1)))) else (spec_l17At.l0 k x1 x2 x9 x10 (wrap64 (x11 + 1)))) else (none)) else (none)) else (some (-1))
def spec_l17At.f (k : Nat) (l0 : List (S61)) (a1 : Int) (a2 : Int) : Option (Int) := spec_l17At.l0 k a1 a2 l0 (l0.length : Int) 0
theorem spec_l17At.mono_l : ∀ k, (∀ y0 y1 y2 y3 y4, LeO (spec_l17At.l0 k y0 y1 y2 y3 y4) (spec_l17At.l0 (k + 1) y0 y1 y2 y3 y4))
  | 0 => fun _ _ _ _ _ r h => by simp [spec_l17At.l0] at h
  | k + 1 => by
    have ih0 := spec_l17At.mono_l k
    · intro y0 y1 y2 y3 y4
      unfold spec_l17At.l0
      repeat' first
      | (with_reducible exact ih0 _ _ _ _ _)
      | (with_reducible exact LeO.refl _)
      | (with_reducible exact LeO.none _)
      | (with_reducible refine LeO.ite ?_ ?_)
      | (with_reducible refine LeO.bind ?_ (fun _ => ?_))
      | exact ih0 _ _ _ _ _
      | exact LeO.none _
      | refine LeO.ite ?_ ?_
      | refine LeO.bind ?_ (fun _ => ?_)
theorem spec_l17At.mono : ∀ a0 a1 a2 k, LeO (spec_l17At.f k a0 a1 a2) (spec_l17At.f (k + 1) a0 a1 a2) := by
  intro a0 a1 a2 k
  have ih0 := spec_l17At.mono_l k
  unfold spec_l17At.f
  repeat' first
      | (with_reducible exact ih0 _ _ _ _ _)
      | (with_reducible exact LeO.refl _)
      | (with_reducible exact LeO.none _)
      | (with_reducible refine LeO.ite ?_ ?_)
      | (with_reducible refine LeO.bind ?_ (fun _ => ?_))
      | exact ih0 _ _ _ _ _
      | exact LeO.none _
      | refine LeO.ite ?_ ?_
      | refine LeO.bind ?_ (fun _ => ?_)
set_option maxHeartbeats 8000000 in
set_option maxRecDepth 100000 in
theorem spec_l17At.calls (k : Nat) (A0 : Option Addr) (c0 : Nat) (l0 : List (S61)) (a1 : Int) (a2 : Int) (r : Int) (w : World) (hr0 : Kd.C k61 w A0 l0.length l0) (hc0 : l0.length ≤ c0) (h : spec_l17At.f k l0 a1 a2 = some r) :
    Calls Try.prog 44 #[.slice A0 l0.length c0, .int .i64 a1, .int .i64 a2] w fun e w' => e = .returned (.int .i64 r) ∧ Below w.heap.size w w' := by
  have hu61 := Try.underlying61
  have HR0 := Aside0.mk hr0
  have HC0 := Aside0.mk hc0
  clear hr0 hc0
  have HB := Aside0.mk (Below.refl w.heap.size w)
  have H : (spec_l17At.l0 k a1 a2 l0 (l0.length : Int) 0) = some r := h
  clear h
  have H' := Aside0.mk H
  clear H
  go_enter Try.func44, Try.ntmps44
  go_wp2
  go_loopg [11] k (fun kq v11 w' => ∃ (x11_1 : Int), v11 = .int .i64 x11_1 ∧ Aside0 (spec_l17At.l0 kq a1 a2 l0 (l0.length : Int) x11_1 = some r) ∧ Aside0 (kq ≤ k) ∧ Aside0 (Below w.heap.size w w'))
  case atStart => exact ⟨(0), (by first | rfl | (simp; done) | (simp [*]; done)), H', ⟨Nat.le_refl _⟩, ⟨by repeat (first | (with_reducible first | exact HB.out | apply below_alloc | apply pw_below_drewN | apply below_drew1) | exact HB.out)⟩⟩
  case round =>
    clear H'
    try clear p2
    obtain ⟨x11_1, rfl, HA, HK1, HB⟩ := hrel
    cases gk with
    | zero => exact absurd HA.out (by simp [spec_l17At.l0])
    | succ k1 =>
      have H := HA.out
      clear HA
      simp only [spec_l17At.l0] at H
      by_cases c4 : x11_1 < (l0.length : Int)
      · rw [if_pos c4] at H
        have c4b0 : decide (x11_1 < (l0.length : Int)) = true := decide_eq_true c4
        clear c4
        by_cases c5 : 0 ≤ x11_1
        · rw [if_pos c5] at H
          have c5b0 : decide (0 ≤ x11_1) = true := decide_eq_true c5
          clear c5
          by_cases c6 : x11_1 < (l0.length : Int)
          · rw [if_pos c6] at H
            have c6b0 : decide (x11_1 < (l0.length : Int)) = true := decide_eq_true c6
            clear c6
            by_cases c7 : ((rd_T61 l0 x11_1).f0) = a1
            · rw [if_pos c7] at H
              have c7b0 : (((rd_T61 l0 x11_1).f0) == a1) = true := beq_iff_eq.mpr c7
              have c7b1 : (((rd_T61 l0 x11_1).f0) != a1) = false := bne_eq_false_iff_eq.mpr c7
              clear c7
              by_cases c8 : ((rd_T61 l0 x11_1).f1) = a2
              · rw [if_pos c8] at H
                have c8b0 : (((rd_T61 l0 x11_1).f1) == a2) = true := beq_iff_eq.mpr c8
                have c8b1 : (((rd_T61 l0 x11_1).f1) != a2) = false := bne_eq_false_iff_eq.mpr c8
                clear c8
                obtain rfl := Option.some.inj H
                have p101 : 0 ≤ (x11_1 : Int) := of_decide_eq_true (by first | (with_reducible assumption) | assumption)
                have q101 : x11_1 < (l0.length : Int) := of_decide_eq_true (by first | (with_reducible assumption) | assumption)
                obtain ⟨ad101, e101, hx101_0, hx101_1, hx101_2, hx101_3, hx101_4, hx101_5⟩ := at_T61 HR0.out x11_1 p101 q101
                cases e101
                replace hx101_0 := (HB.out.cell (World.block_lt_of_cell? w _ hx101_0)).trans hx101_0
                replace hx101_1 := (HB.out.cell (World.block_lt_of_cell? w _ hx101_1)).trans hx101_1
                replace hx101_2 := (HB.out.cell (World.block_lt_of_cell? w _ hx101_2)).trans hx101_2
                replace hx101_3 := (HB.out.cell (World.block_lt_of_cell? w _ hx101_3)).trans hx101_3
                replace hx101_4 := (HB.out.cell (World.block_lt_of_cell? w _ hx101_4)).trans hx101_4
                replace hx101_5 := (HB.out.cell (World.block_lt_of_cell? w _ hx101_5)).trans hx101_5
                replace p101 := eq_true p101
                replace q101 := eq_true q101
                go_wp2_with (first | ((with_reducible refine gate_dst (N := 8) rfl ?_); refine box_event ?hg (N := 8) ?hd (cs := #[.int .i64 0, .int .i64 0, .int .i64 0, .int .i64 0, .string (⟨#[]⟩ : ByteArray), .bool false]) (t := 61) ?hr ?_; (case hd => rfl); (case hg => rfl); (case hr => first | (go_simp; done) | (go_simp; rfl)); intro gb102 hg w9 hbox hb; have n0_ := Aside0.mk (below_step (by repeat (first | (with_reducible first | exact HB.out | apply below_alloc | apply pw_below_drewN | apply below_drew1) | exact HB.out)) hb); have n1_ := Aside0.mk (hbox); have n2_ := Aside0.mk ((by rw [hg]; exact (below_size (by repeat (first | (with_reducible first | exact HB.out | apply below_alloc | apply pw_below_drewN | apply below_drew1) | exact HB.out))) : w.heap.size ≤ gb102)); have n3_ := Aside0.mk ((by rw [hg]; exact (below_size (by repeat (first | (with_reducible first | exact HB.out | apply below_alloc | apply pw_below_drewN | apply below_drew1) | exact HB.out))) : w.heap.size ≤ gb102)); clear HB; have HB := n0_; have BK102 := n1_; have GW102 := n2_; have GE102 := n3_; clear n0_ n1_ n2_ n3_; clear hb hbox hg; have hcz10_0 : w9.cell? ⟨gb102, 0, none⟩ = some (.int .i64 0) := (blk_cell BK102.out 0).trans rfl; have hcz10_1 : w9.cell? ⟨gb102, 1, none⟩ = some (.int .i64 0) := (blk_cell BK102.out 1).trans rfl; have hcz10_2 : w9.cell? ⟨gb102, 2, none⟩ = some (.int .i64 0) := (blk_cell BK102.out 2).trans rfl; have hcz10_3 : w9.cell? ⟨gb102, 3, none⟩ = some (.int .i64 0) := (blk_cell BK102.out 3).trans rfl; have hcz10_4 : w9.cell? ⟨gb102, 4, none⟩ = some (.string (⟨#[]⟩ : ByteArray)) := (blk_cell BK102.out 4).trans rfl; have hcz10_5 : w9.cell? ⟨gb102, 5, none⟩ = some (.bool false) := (blk_cell BK102.out 5).trans rfl; have hfz10_0 := blk_frozen BK102.out 0; have hfz10_1 := blk_frozen BK102.out 1; have hfz10_2 := blk_frozen BK102.out 2; have hfz10_3 := blk_frozen BK102.out 3; have hfz10_4 := blk_frozen BK102.out 4; have hfz10_5 := blk_frozen BK102.out 5))
                go_ret
                exact ⟨by first | rfl | (simp [errW_none, errW_some] <;> rfl) | (simp [*, errW_none, errW_some] <;> rfl), by repeat (first | (with_reducible first | exact HB.out | apply below_alloc | apply pw_below_drewN | apply below_drew1 | refine below_set ?_ GE102.out) | exact HB.out)⟩
              · rw [if_neg c8] at H
                have c8b0 : (((rd_T61 l0 x11_1).f1) == a2) = false := beq_eq_false_iff_ne.mpr c8
                have c8b1 : (((rd_T61 l0 x11_1).f1) != a2) = true := bne_iff_ne.mpr c8
                have H' := Aside0.mk H
                clear H
                have p101 : 0 ≤ (x11_1 : Int) := of_decide_eq_true (by first | (with_reducible assumption) | assumption)
                have q101 : x11_1 < (l0.length : Int) := of_decide_eq_true (by first | (with_reducible assumption) | assumption)
                obtain ⟨ad101, e101, hx101_0, hx101_1, hx101_2, hx101_3, hx101_4, hx101_5⟩ := at_T61 HR0.out x11_1 p101 q101
                cases e101
                replace hx101_0 := (HB.out.cell (World.block_lt_of_cell? w _ hx101_0)).trans hx101_0
                replace hx101_1 := (HB.out.cell (World.block_lt_of_cell? w _ hx101_1)).trans hx101_1
                replace hx101_2 := (HB.out.cell (World.block_lt_of_cell? w _ hx101_2)).trans hx101_2
                replace hx101_3 := (HB.out.cell (World.block_lt_of_cell? w _ hx101_3)).trans hx101_3
                replace hx101_4 := (HB.out.cell (World.block_lt_of_cell? w _ hx101_4)).trans hx101_4
                replace hx101_5 := (HB.out.cell (World.block_lt_of_cell? w _ hx101_5)).trans hx101_5
                replace p101 := eq_true p101
                replace q101 := eq_true q101
                go_wp2_with (first | ((with_reducible refine gate_dst (N := 8) rfl ?_); refine box_event ?hg (N := 8) ?hd (cs := #[.int .i64 0, .int .i64 0, .int .i64 0, .int .i64 0, .string (⟨#[]⟩ : ByteArray), .bool false]) (t := 61) ?hr ?_; (case hd => rfl); (case hg => rfl); (case hr => first | (go_simp; done) | (go_simp; rfl)); intro gb102 hg w11 hbox hb; have n0_ := Aside0.mk (below_step (by repeat (first | (with_reducible first | exact HB.out | apply below_alloc | apply pw_below_drewN | apply below_drew1) | exact HB.out)) hb); have n1_ := Aside0.mk (hbox); have n2_ := Aside0.mk ((by rw [hg]; exact (below_size (by repeat (first | (with_reducible first | exact HB.out | apply below_alloc | apply pw_below_drewN | apply below_drew1) | exact HB.out))) : w.heap.size ≤ gb102)); have n3_ := Aside0.mk ((by rw [hg]; exact (below_size (by repeat (first | (with_reducible first | exact HB.out | apply below_alloc | apply pw_below_drewN | apply below_drew1) | exact HB.out))) : w.heap.size ≤ gb102)); clear HB; have HB := n0_; have BK102 := n1_; have GW102 := n2_; have GE102 := n3_; clear n0_ n1_ n2_ n3_; clear hb hbox hg; have hcz12_0 : w11.cell? ⟨gb102, 0, none⟩ = some (.int .i64 0) := (blk_cell BK102.out 0).trans rfl; have hcz12_1 : w11.cell? ⟨gb102, 1, none⟩ = some (.int .i64 0) := (blk_cell BK102.out 1).trans rfl; have hcz12_2 : w11.cell? ⟨gb102, 2, none⟩ = some (.int .i64 0) := (blk_cell BK102.out 2).trans rfl; have hcz12_3 : w11.cell? ⟨gb102, 3, none⟩ = some (.int .i64 0) := (blk_cell BK102.out 3).trans rfl; have hcz12_4 : w11.cell? ⟨gb102, 4, none⟩ = some (.string (⟨#[]⟩ : ByteArray)) := (blk_cell BK102.out 4).trans rfl; have hcz12_5 : w11.cell? ⟨gb102, 5, none⟩ = some (.bool false) := (blk_cell BK102.out 5).trans rfl; have hfz12_0 := blk_frozen BK102.out 0; have hfz12_1 := blk_frozen BK102.out 1; have hfz12_2 := blk_frozen BK102.out 2; have hfz12_3 := blk_frozen BK102.out 3; have hfz12_4 := blk_frozen BK102.out 4; have hfz12_5 := blk_frozen BK102.out 5))
                go_roundg k1
                case measure => have := HK1.out; omega
                case rel => exact ⟨(wrap64 (x11_1 + 1)), (by first | rfl | (simp; done) | (simp [*]; done)), H', ⟨by have := HK1.out; omega⟩, ⟨by repeat (first | (with_reducible first | exact HB.out | apply below_alloc | apply pw_below_drewN | apply below_drew1 | refine below_set ?_ GE102.out) | exact HB.out)⟩⟩
            · rw [if_neg c7] at H
              have c7b0 : (((rd_T61 l0 x11_1).f0) == a1) = false := beq_eq_false_iff_ne.mpr c7
              have c7b1 : (((rd_T61 l0 x11_1).f0) != a1) = true := bne_iff_ne.mpr c7
              have H' := Aside0.mk H
              clear H
              have p101 : 0 ≤ (x11_1 : Int) := of_decide_eq_true (by first | (with_reducible assumption) | assumption)
              have q101 : x11_1 < (l0.length : Int) := of_decide_eq_true (by first | (with_reducible assumption) | assumption)
              obtain ⟨ad101, e101, hx101_0, hx101_1, hx101_2, hx101_3, hx101_4, hx101_5⟩ := at_T61 HR0.out x11_1 p101 q101
              cases e101
              replace hx101_0 := (HB.out.cell (World.block_lt_of_cell? w _ hx101_0)).trans hx101_0
              replace hx101_1 := (HB.out.cell (World.block_lt_of_cell? w _ hx101_1)).trans hx101_1
              replace hx101_2 := (HB.out.cell (World.block_lt_of_cell? w _ hx101_2)).trans hx101_2
              replace hx101_3 := (HB.out.cell (World.block_lt_of_cell? w _ hx101_3)).trans hx101_3
              replace hx101_4 := (HB.out.cell (World.block_lt_of_cell? w _ hx101_4)).trans hx101_4
              replace hx101_5 := (HB.out.cell (World.block_lt_of_cell? w _ hx101_5)).trans hx101_5
              replace p101 := eq_true p101
              replace q101 := eq_true q101
              go_wp2_with (first | ((with_reducible refine gate_dst (N := 8) rfl ?_); refine box_event ?hg (N := 8) ?hd (cs := #[.int .i64 0, .int .i64 0, .int .i64 0, .int .i64 0, .string (⟨#[]⟩ : ByteArray), .bool false]) (t := 61) ?hr ?_; (case hd => rfl); (case hg => rfl); (case hr => first | (go_simp; done) | (go_simp; rfl)); intro gb102 hg w13 hbox hb; have n0_ := Aside0.mk (below_step (by repeat (first | (with_reducible first | exact HB.out | apply below_alloc | apply pw_below_drewN | apply below_drew1) | exact HB.out)) hb); have n1_ := Aside0.mk (hbox); have n2_ := Aside0.mk ((by rw [hg]; exact (below_size (by repeat (first | (with_reducible first | exact HB.out | apply below_alloc | apply pw_below_drewN | apply below_drew1) | exact HB.out))) : w.heap.size ≤ gb102)); have n3_ := Aside0.mk ((by rw [hg]; exact (below_size (by repeat (first | (with_reducible first | exact HB.out | apply below_alloc | apply pw_below_drewN | apply below_drew1) | exact HB.out))) : w.heap.size ≤ gb102)); clear HB; have HB := n0_; have BK102 := n1_; have GW102 := n2_; have GE102 := n3_; clear n0_ n1_ n2_ n3_; clear hb hbox hg; have hcz14_0 : w13.cell? ⟨gb102, 0, none⟩ = some (.int .i64 0) := (blk_cell BK102.out 0).trans rfl; have hcz14_1 : w13.cell? ⟨gb102, 1, none⟩ = some (.int .i64 0) := (blk_cell BK102.out 1).trans rfl; have hcz14_2 : w13.cell? ⟨gb102, 2, none⟩ = some (.int .i64 0) := (blk_cell BK102.out 2).trans rfl; have hcz14_3 : w13.cell? ⟨gb102, 3, none⟩ = some (.int .i64 0) := (blk_cell BK102.out 3).trans rfl; have hcz14_4 : w13.cell? ⟨gb102, 4, none⟩ = some (.string (⟨#[]⟩ : ByteArray)) := (blk_cell BK102.out 4).trans rfl; have hcz14_5 : w13.cell? ⟨gb102, 5, none⟩ = some (.bool false) := (blk_cell BK102.out 5).trans rfl; have hfz14_0 := blk_frozen BK102.out 0; have hfz14_1 := blk_frozen BK102.out 1; have hfz14_2 := blk_frozen BK102.out 2; have hfz14_3 := blk_frozen BK102.out 3; have hfz14_4 := blk_frozen BK102.out 4; have hfz14_5 := blk_frozen BK102.out 5))
              go_roundg k1
              case measure => have := HK1.out; omega
              case rel => exact ⟨(wrap64 (x11_1 + 1)), (by first | rfl | (simp; done) | (simp [*]; done)), H', ⟨by have := HK1.out; omega⟩, ⟨by repeat (first | (with_reducible first | exact HB.out | apply below_alloc | apply pw_below_drewN | apply below_drew1 | refine below_set ?_ GE102.out) | exact HB.out)⟩⟩
          · rw [if_neg c6] at H
            exact absurd H (by simp)
        · rw [if_neg c5] at H
          exact absurd H (by simp)
      · rw [if_neg c4] at H
        have c4b0 : decide (x11_1 < (l0.length : Int)) = false := decide_eq_false c4
        clear c4
        obtain rfl := Option.some.inj H
        go_wp2
        go_ret
        exact ⟨by first | rfl | (simp [errW_none, errW_some] <;> rfl) | (simp [*, errW_none, errW_some] <;> rfl), by repeat (first | (with_reducible first | exact HB.out | apply below_alloc | apply pw_below_drewN | apply below_drew1) | exact HB.out)⟩
end Go.Proofs.Ytaofjlelclbioaa.X
