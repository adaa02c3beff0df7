/- The law FnExactHearEntry of the program: its proof, part 2. -/
import Derived.Test.YtgccoekganghhaaProg
import Derived.Below
import Derived.Deep.Draws
import Derived.Deep.AppendLies
import Derived.Maps.AppendAt
import Derived.OwnWalk
import Derived.Laws.BytesArg
import Derived.Laws.MakeOwn
import Derived.Laws.OwnMore
import Derived.Deep.OwnRows
import Derived.Tactics
import Derived.Lib.ConvBytes
import Derived.Laws.Slices
import Derived.WalkKit
import Derived.KernelRfl
import Derived.RowKit3
import Derived.Deep.LoopGhost
import Derived.Deep.QuietTactic
import Derived.BigQuiet
import Derived.WideLaws
import Derived.Deep.DeepCutAuto
import Derived.Deep.CutBlock
import Derived.Deep.RegionHeld3
import Derived.Laws.Rows
import Derived.Lib.AppendStr
import Derived.ArgAppend
import Derived.Laws.IdiomCopy
import Derived.OrdersHeld
import Derived.Laws.BitsLemmas
import Derived.RowKit
import Derived.Test.YtgccoekganghhaaMFnExactHearEntry1
import Derived.Shelf.Abstract
set_option linter.unusedVariables false
set_option linter.unusedSimpArgs false
namespace Go.Proofs.Ytgccoekganghhaa.X
open Go.RowKit Go.Proofs.YtgccoekganghhaaW.PrintWords Go.Proofs.YtgccoekganghhaaW.PrintLast Go.Proofs.YtgccoekganghhaaW.PrintMore
theorem mz {p : Prop} (h : p) : Aside0 p := ⟨h⟩
theorem be0_ {α β : Type} {x : Option α} {f : α → Option β} {b : β} (h : x.bind f = some b) : ∃ a, x = some a ∧ f a = some b := Option.bind_eq_some_iff.mp h
theorem bc_ {w w1 : World} {p : Addr} {v : Value} (hb : Below w.heap.size w w1) (h : w.cell? p = some v) : w1.cell? p = some v := (hb.cell (World.block_lt_of_cell? w _ h)).trans h
theorem bk_ {w : World} {g : Nat} {t : TypeId} {cs : Array Value} (h : w.heap[g]? = some (.cells cs t (0, 0))) (i : Nat) (v : Value) (e : cs[i]? = some v := by rfl) : w.cell? ⟨g, i, none⟩ = some v := (blk_cell h i).trans e
theorem bz_ {P : Program} {ops : Array Oper} {rest : List Oper} {o : Oper} {a : Act} {Q : Exit → Act → World → Prop} {W : World} (N : Tmp) (cs : Array Value) (t : TypeId) (h : ∀ g, g = W.heap.size → ∀ w1, w1.heap[g]? = some (.cells cs t (0, 0)) → Below W.heap.size W w1 → wpList P ops Q rest (a.put o.dst (.pointer (some ⟨g, 0, none⟩))) w1) (hd : o.dst = some N := by rfl) (hgd : o.guard = none := by rfl) (hrun : (execOp a.eval o).run P W = .ok (.value (.pointer (some ⟨W.heap.size, 0, none⟩))) (W.alloc (.cells cs t (0, 0))) := by first | (go_simp; done) | (go_simp; rfl)) : wpList P ops Q (o :: rest) a W := box_event hgd hd hrun h
theorem cz2_ {w : World} {g : Nat} {t : TypeId} {v0 v1 : Value} (h : w.heap[g]? = some (.cells #[v0, v1] t (0, 0))) : w.cell? ⟨g, 0, none⟩ = some v0 ∧ w.cell? ⟨g, 1, none⟩ = some v1 := ⟨(blk_cell h 0).trans rfl, (blk_cell h 1).trans rfl⟩
theorem fz2_ {w : World} {g : Nat} {t : TypeId} {cs : Array Value} (h : w.heap[g]? = some (.cells cs t (0, 0))) : w.frozen? ⟨g, 0, none⟩ = false ∧ w.frozen? ⟨g, 1, none⟩ = false := ⟨blk_frozen h 0, blk_frozen h 1⟩
theorem cz3_ {w : World} {g : Nat} {t : TypeId} {v0 v1 v2 : Value} (h : w.heap[g]? = some (.cells #[v0, v1, v2] t (0, 0))) : w.cell? ⟨g, 0, none⟩ = some v0 ∧ w.cell? ⟨g, 1, none⟩ = some v1 ∧ w.cell? ⟨g, 2, none⟩ = some v2 := ⟨(blk_cell h 0).trans rfl, (blk_cell h 1).trans rfl, (blk_cell h 2).trans rfl⟩
theorem fz3_ {w : World} {g : Nat} {t : TypeId} {cs : Array Value} (h : w.heap[g]? = some (.cells cs t (0, 0))) : w.frozen? ⟨g, 0, none⟩ = false ∧ w.frozen? ⟨g, 1, none⟩ = false ∧ w.frozen? ⟨g, 2, none⟩ = false := ⟨blk_frozen h 0, blk_frozen h 1, blk_frozen h 2⟩
theorem cz4_ {w : World} {g : Nat} {t : TypeId} {v0 v1 v2 v3 : Value} (h : w.heap[g]? = some (.cells #[v0, v1, v2, v3] t (0, 0))) : w.cell? ⟨g, 0, none⟩ = some v0 ∧ w.cell? ⟨g, 1, none⟩ = some v1 ∧ w.cell? ⟨g, 2, none⟩ = some v2 ∧ w.cell? ⟨g, 3, none⟩ = some v3 := ⟨(blk_cell h 0).trans rfl, (blk_cell h 1).trans rfl, (blk_cell h 2).trans rfl, (blk_cell h 3).trans rfl⟩
theorem fz4_ {w : World} {g : Nat} {t : TypeId} {cs : Array Value} (h : w.heap[g]? = some (.cells cs t (0, 0))) : w.frozen? ⟨g, 0, none⟩ = false ∧ w.frozen? ⟨g, 1, none⟩ = false ∧ w.frozen? ⟨g, 2, none⟩ = false ∧ w.frozen? ⟨g, 3, none⟩ = false := ⟨blk_frozen h 0, blk_frozen h 1, blk_frozen h 2, blk_frozen h 3⟩
theorem cz8_ {w : World} {g : Nat} {t : TypeId} {v0 v1 v2 v3 v4 v5 v6 v7 : Value} (h : w.heap[g]? = some (.cells #[v0, v1, v2, v3, v4, v5, v6, v7] t (0, 0))) : w.cell? ⟨g, 0, none⟩ = some v0 ∧ w.cell? ⟨g, 1, none⟩ = some v1 ∧ w.cell? ⟨g, 2, none⟩ = some v2 ∧ w.cell? ⟨g, 3, none⟩ = some v3 ∧ w.cell? ⟨g, 4, none⟩ = some v4 ∧ w.cell? ⟨g, 5, none⟩ = some v5 ∧ w.cell? ⟨g, 6, none⟩ = some v6 ∧ w.cell? ⟨g, 7, none⟩ = some v7 := ⟨(blk_cell h 0).trans rfl, (blk_cell h 1).trans rfl, (blk_cell h 2).trans rfl, (blk_cell h 3).trans rfl, (blk_cell h 4).trans rfl, (blk_cell h 5).trans rfl, (blk_cell h 6).trans rfl, (blk_cell h 7).trans rfl⟩
theorem fz8_ {w : World} {g : Nat} {t : TypeId} {cs : Array Value} (h : w.heap[g]? = some (.cells cs t (0, 0))) : w.frozen? ⟨g, 0, none⟩ = false ∧ w.frozen? ⟨g, 1, none⟩ = false ∧ w.frozen? ⟨g, 2, none⟩ = false ∧ w.frozen? ⟨g, 3, none⟩ = false ∧ w.frozen? ⟨g, 4, none⟩ = false ∧ w.frozen? ⟨g, 5, none⟩ = false ∧ w.frozen? ⟨g, 6, none⟩ = false ∧ w.frozen? ⟨g, 7, none⟩ = false := ⟨blk_frozen h 0, blk_frozen h 1, blk_frozen h 2, blk_frozen h 3, blk_frozen h 4, blk_frozen h 5, blk_frozen h 6, blk_frozen h 7⟩
theorem bs0_ {w0 w w1 : World} (hb : Below w.heap.size w w1) (h : Below w0.heap.size w0 w := by repeat (first | (with_reducible first | exact HB.out | apply below_alloc | apply pw_below_drewN | apply below_drew1) | exact HB.out)) : Below w0.heap.size w0 w1 := below_step h hb
theorem bz1_ {w0 w : World} (h : Below w0.heap.size w0 w := by repeat (first | (with_reducible first | exact HB.out | apply below_alloc | apply pw_below_drewN | apply below_drew1) | exact HB.out)) : w0.heap.size ≤ w.heap.size := below_size h
theorem bs2_ {w0 w w1 : World} (hb : Below w.heap.size w w1) (h : Below w0.heap.size w0 w := by repeat (first | (with_reducible first | exact HB.out | apply below_alloc | apply pw_below_drewN | apply below_drew1 | refine below_set ?_ GE101.out) | exact HB.out)) : Below w0.heap.size w0 w1 := below_step h hb
theorem bs3_ {w0 w w1 : World} (hb : Below w.heap.size w w1) (h : Below w0.heap.size w0 w := by repeat (first | (with_reducible first | exact HB.out | apply below_alloc | apply pw_below_drewN | apply below_drew1 | refine below_set ?_ GE102.out) | exact HB.out)) : Below w0.heap.size w0 w1 := below_step h hb
theorem bs4_ {w0 w w1 : World} (hb : Below w.heap.size w w1) (h : Below w0.heap.size w0 w := by repeat (first | (with_reducible first | exact HB.out | apply below_alloc | apply pw_below_drewN | apply below_drew1 | refine below_set ?_ GE101.out | refine below_set ?_ GE102.out) | exact HB.out)) : Below w0.heap.size w0 w1 := below_step h hb
theorem bz5_ {w0 w : World} (h : Below w0.heap.size w0 w := by repeat (first | (with_reducible first | exact HB.out | apply below_alloc | apply pw_below_drewN | apply below_drew1 | refine below_set ?_ GE101.out) | exact HB.out)) : w0.heap.size ≤ w.heap.size := below_size h
theorem bz6_ {w0 w : World} (h : Below w0.heap.size w0 w := by repeat (first | (with_reducible first | exact HB.out | apply below_alloc | apply pw_below_drewN | apply below_drew1 | refine below_set ?_ GE101.out | refine below_set ?_ GE102.out) | exact HB.out)) : w0.heap.size ≤ w.heap.size := below_size h
theorem bs7_ {w0 w w1 : World} (hb : Below w.heap.size w w1) (h : Below w0.heap.size w0 w := by repeat (first | (with_reducible first | exact HB.out | apply below_alloc | apply pw_below_drewN | apply below_drew1 | refine below_set ?_ GE101.out | refine below_set ?_ GE102.out | refine below_set ?_ GE103.out) | exact HB.out)) : Below w0.heap.size w0 w1 := below_step h hb
theorem bz8_ {w0 w : World} (h : Below w0.heap.size w0 w := by repeat (first | (with_reducible first | exact HB.out | apply below_alloc | apply pw_below_drewN | apply below_drew1 | refine below_set ?_ GE101.out | refine below_set ?_ GE102.out | refine below_set ?_ GE103.out) | exact HB.out)) : w0.heap.size ≤ w.heap.size := below_size h
theorem bz9_ {w0 w : World} (h : Below w0.heap.size w0 w := by repeat (first | (with_reducible first | exact HB.out | apply below_alloc | apply pw_below_drewN | apply below_drew1 | refine below_set ?_ GE102.out) | exact HB.out)) : w0.heap.size ≤ w.heap.size := below_size h
theorem a0_ {p : Prop} (h : p := by first | exact HK.out.1 | exact (show Kept w _ (fun k_ => P0_5_ k_ ∨ P0_6_ k_) from by repeat (first | (with_reducible first | exact HK.out | apply Kept.alloc | apply Kept.drewN | apply Kept.drew | refine Kept.setCell ?_ (.inr GW101.out) _) | exact HK.out)).1) : p := h
theorem a1_ {p : Prop} (h : p := by (with_reducible repeat (first | apply Kd.R_alloc | apply Kd.R_drewN | apply Kd.R_drew)); exact (Kd.R_mono (Kd.R_far (p := ⟨gb103, 5, none⟩) (Kd.R_types HO106.out BK103.out (by decide)) (fun _ hk => hk.2) (.slice Ao13 t104.length co13)) (fun _ h_ => h_.1))) : p := h
theorem a2_ {p : Prop} (h : p := by (with_reducible repeat (first | apply Kd.R_alloc | apply Kd.R_drewN | apply Kd.R_drew)); exact (Kd.R_mono (Kd.R_far (p := ⟨gb101, 5, none⟩) (Kd.R_types HO108.out BK101.out (by decide)) (fun _ hk => hk.2) (.slice Ao11 y106.length co11)) (fun _ h_ => h_.1))) : p := h
theorem a3_ {p : Prop} (h : p := by repeat (first | (with_reducible first | exact HB.out | apply below_alloc | apply pw_below_drewN | apply below_drew1 | refine below_set ?_ GE101.out | refine below_set ?_ GE102.out | refine below_set ?_ GE103.out) | exact HB.out)) : p := h
theorem a4_ {p : Prop} (h : p := by first | exact HK.out.1 | exact (show Kept w _ (fun k_ => P0_5_ k_ ∨ P0_6_ k_) from by repeat (first | (with_reducible first | exact HK.out | apply Kept.alloc | apply Kept.drewN | apply Kept.drew) | exact HK.out)).1) : p := h
theorem a5_ {p : Prop} (h : p := by repeat (first | (with_reducible first | exact HK.out | apply Kept.alloc | apply Kept.drewN | apply Kept.drew | refine Kept.setCell ?_ (.inr GW101.out) _ | refine Kept.setCell ?_ (.inr GW102.out) _) | exact HK.out)) : p := h
theorem a6_ {p : Prop} (h : p := by repeat (first | (with_reducible first | exact HB.out | apply below_alloc | apply pw_below_drewN | apply below_drew1 | refine below_set ?_ GE101.out | refine below_set ?_ GE102.out) | exact HB.out)) : p := h
theorem a7_ {p : Prop} (h : p := by repeat (first | (with_reducible first | exact HK.out | apply Kept.alloc | apply Kept.drewN | apply Kept.drew | refine Kept.setCell ?_ (.inr GW101.out) _) | exact HK.out)) : p := h
theorem a8_ {p : Prop} (h : p := by repeat (first | (with_reducible first | exact HB.out | apply below_alloc | apply pw_below_drewN | apply below_drew1 | refine below_set ?_ GE101.out) | exact HB.out)) : p := h
theorem a9_ {p : Prop} (h : p := by repeat (first | (with_reducible first | exact HB.out | apply below_alloc | apply pw_below_drewN | apply below_drew1 | refine below_set ?_ GE102.out) | exact HB.out)) : p := h
theorem a10_ {p : Prop} (h : p := by first | exact Kd.R_nil _ _ _ _ _ | exact Kd.N_nil _ _ _ _ _ | exact Kd.V_nil _ _ _ _ _ | exact Kd.Q_nil _ _ _ _ _ | exact Kd.S_nil _ _ _ _ _) : p := h
theorem a11_ {p : Prop} (h : p := by (try simp only [List.map_toArray, List.map_cons, List.map_nil]); first | done | rfl | (simp only [List.length_drop, List.length_take]; rfl)) : p := h
theorem a12_ {p : Prop} (h : p := by repeat (first | (with_reducible first | exact HB.out | apply below_alloc | apply pw_below_drewN | apply below_drew1) | exact HB.out)) : p := h
theorem a13_ {p : Prop} (h : p := by repeat (first | (with_reducible first | exact HK.out | apply Kept.alloc | apply Kept.drewN | apply Kept.drew) | exact HK.out)) : p := h
theorem a14_ {p : Prop} (h : p := by (with_reducible repeat (first | refine blk_drewN ?_ _ | refine blk_drew ?_ | refine blk_alloc ?_ _)); exact BK101.out) : p := h
theorem a15_ {p : Prop} (h : p := by (with_reducible repeat (first | refine blk_drewN ?_ _ | refine blk_drew ?_ | refine blk_alloc ?_ _)); exact BK102.out) : p := h
theorem a16_ {p : Prop} (h : p := by (with_reducible repeat (first | apply Kd.R_alloc | apply Kd.R_drewN | apply Kd.R_drew)); exact HO105.out) : p := h
theorem a17_ {p : Prop} (h : p := by (with_reducible repeat (first | apply Kd.R_alloc | apply Kd.R_drewN | apply Kd.R_drew)); exact HO0_5.out) : p := h
theorem a18_ {p : Prop} (h : p := by (with_reducible repeat (first | apply Kd.R_alloc | apply Kd.R_drewN | apply Kd.R_drew)); exact HO0_6.out) : p := h
theorem a19_ {p : Prop} (h : p := by (with_reducible repeat (first | apply Kd.R_alloc | apply Kd.R_drewN | apply Kd.R_drew)); exact HO108.out) : p := h
theorem a20_ {p : Prop} (h : p := by (with_reducible repeat (first | apply Kd.R_alloc | apply Kd.R_drewN | apply Kd.R_drew)); exact HO103.out) : p := h
theorem a21_ {p : Prop} (h : p := by (with_reducible repeat (first | apply Kd.R_alloc | apply Kd.R_drewN | apply Kd.R_drew)); exact HO107.out) : p := h
theorem a22_ {p : Prop} (h : p := by (with_reducible repeat (first | apply Kd.R_alloc | apply Kd.R_drewN | apply Kd.R_drew)); exact HO109.out) : p := h
theorem a23_ {p : Prop} (h : p := by (with_reducible repeat (first | apply Kd.R_alloc | apply Kd.R_drewN | apply Kd.R_drew)); exact HO0_2.out) : p := h
theorem a24_ {p : Prop} (h : p := by (with_reducible repeat (first | apply Kd.R_alloc | apply Kd.R_drewN | apply Kd.R_drew)); exact HO_3.out) : p := h
theorem a25_ {p : Prop} (h : p := by (with_reducible repeat (first | apply Kd.R_alloc | apply Kd.R_drewN | apply Kd.R_drew)); exact HO_0.out) : p := h
theorem a26_ {p : Prop} (h : p := by (with_reducible repeat (first | apply Kd.R_alloc | apply Kd.R_drewN | apply Kd.R_drew)); exact HO0.out) : p := h
theorem a27_ {p : Prop} (h : p := by first | rfl | (simp [errW_none, errW_some] <;> rfl) | (simp [*, errW_none, errW_some] <;> rfl)) : p := h
theorem a28_ {p : Prop} (h : p := by repeat (first | exact Drawn0.refl _ | apply Drawn0.step)) : p := h
theorem a29_ {p : Prop} (h : p := by first | (with_reducible assumption) | assumption) : p := h
theorem a30_ {p : Prop} (h : p := by first | rfl | (simp; done) | (simp [*]; done)) : p := h
theorem a31_ {p : Prop} (h : p := by have := HGR.out; have := HB3.out.size; omega) : p := h
theorem a32_ {p : Prop} (h : p := by have := HLSB6.out; have := HLRSB6.out; omega) : p := h
theorem a33_ {p : Prop} (h : p := by first | (go_simp; done) | (go_simp; rfl)) : p := h
section
attribute [local go_sem] max2_int min2_int max_two min_two max_three min_three max_four min_four
def errW : Option Int → Value
 | none => .nilIface
 | some c => .iface 0 (.int .i64 c)
theorem errW_none : errW none = .nilIface := rfl
theorem errW_some (c : Int) : errW (some c) = .iface 0 (.int .i64 c) := rfl

theorem info5 : (Try.prog.info? 5).map (fun i => (i.zero, i.size, i.bytes)) = some (some (.int .u8 0), 1, 1) := by kernel_rfl
theorem info86 : (Try.prog.info? 86).map (fun i => (i.zero, i.size, i.bytes)) = some (some (.agg #[(.int .i64 0), (.string ⟨#[]⟩), (.string ⟨#[]⟩)]), 3, 40) := by kernel_rfl
-- the values' own types
structure S7 where
 f0 : Int
 f1 : Int
 f2 : Bool
 f3 : Int
def z7 : S7 := ⟨(0 : Int), (0 : Int), false, (0 : Int)⟩
def k7 : Kd S7 := Kd.iso (Kd.pair (Kd.int .i64) (Kd.pair (Kd.int .i64) (Kd.pair Kd.bool (Kd.int .u8)))) (fun x : S7 => (x.f0, x.f1, x.f2, x.f3))
structure S8 where
 f0 : Int
 f1 : Int
 f2 : Bool
 f3 : Int
def z8 : S8 := ⟨(0 : Int), (0 : Int), false, (0 : Int)⟩
structure S13 where
 f0 : ByteArray
 f1 : Int
def z13 : S13 := ⟨(⟨#[]⟩ : ByteArray), (0 : Int)⟩
def k13 : Kd S13 := Kd.iso (Kd.pair Kd.string (Kd.int .u64)) (fun x : S13 => (x.f0, x.f1))
structure S14 where
 f0 : ByteArray
 f1 : Int
def z14 : S14 := ⟨(⟨#[]⟩ : ByteArray), (0 : Int)⟩
def k14 : Kd S14 := Kd.iso (Kd.pair Kd.string (Kd.int .u64)) (fun x : S14 => (x.f0, x.f1))
structure S78 where
 f0 : Int
 f1 : ByteArray
 f2 : ByteArray
def z78 : S78 := ⟨(0 : Int), (⟨#[]⟩ : ByteArray), (⟨#[]⟩ : ByteArray)⟩
def k78 : Kd S78 := Kd.iso (Kd.pair (Kd.int .i64) (Kd.pair Kd.string Kd.string)) (fun x : S78 => (x.f0, x.f1, x.f2))
theorem k78_open {w : World} {x : S78} {cs : List Value} (h : k78.K w x cs) : cs = [.int .i64 x.f0, .string x.f1, .string x.f2] := by
 obtain ⟨_, _, rfl, rfl, ⟨_, _, rfl, rfl, rfl⟩⟩ := h
 exact rfl
def rd_T78 (xs : List S78) (i : Int) : S78 := xs.getD i.toNat z78
theorem at_T78 {w : World} {A : Option Addr} {n : Nat} {xs : List S78} (h : Kd.C k78 w A n xs) (i : Int) (h0 : 0 ≤ i) (h1 : i < n) : ∃ ad , A = some ad ∧ w.cell? (ad.add (i.toNat * 3)) = some (.int .i64 (rd_T78 xs i).f0) ∧ w.cell? ⟨(ad.add (i.toNat * 3)).block, (ad.add (i.toNat * 3)).off + 1, none⟩ = some (.string (rd_T78 xs i).f1) ∧ w.cell? ⟨(ad.add (i.toNat * 3)).block, (ad.add (i.toNat * 3)).off + 2, none⟩ = some (.string (rd_T78 xs i).f2) := by
 obtain ⟨ad, c, e, _, hK, hc0⟩ := Kd.C_get h z78 i h0 h1
 have hc : ∀ j u, c[j]? = some u → w.cell? (ad.add (i.toNat * 3 + j)) = some u := hc0
 obtain rfl := k78_open hK
 exact ⟨ad, e, hc 0 _ rfl, by rw [← add_field _ _ 1 (by omega)]; exact hc 1 _ rfl, by rw [← add_field _ _ 2 (by omega)]; exact hc 2 _ rfl⟩

structure S86 where
 f0 : Int
 f1 : ByteArray
 f2 : ByteArray
def z86 : S86 := ⟨(0 : Int), (⟨#[]⟩ : ByteArray), (⟨#[]⟩ : ByteArray)⟩
def k86 : Kd S86 := Kd.iso (Kd.pair (Kd.int .i64) (Kd.pair Kd.string Kd.string)) (fun x : S86 => (x.f0, x.f1, x.f2))
theorem k86_open {w : World} {x : S86} {cs : List Value} (h : k86.K w x cs) : cs = [.int .i64 x.f0, .string x.f1, .string x.f2] := by
 obtain ⟨_, _, rfl, rfl, ⟨_, _, rfl, rfl, rfl⟩⟩ := h
 exact rfl
theorem k86_openM {w : World} {base : Nat} {ok : Nat → Prop} {x : S86} {cs : List Value} (h : k86.M w base ok x cs) : cs = [.int .i64 x.f0, .string x.f1, .string x.f2] := by
 obtain ⟨_, _, rfl, rfl, ⟨_, _, rfl, rfl, rfl⟩⟩ := h
 exact rfl
theorem k86_mkM (w : World) (base : Nat) (ok : Nat → Prop) (x : S86)  : k86.M w base ok x [.int .i64 x.f0, .string x.f1, .string x.f2] := ⟨[.int .i64 x.f0], [.string x.f1, .string x.f2], rfl, rfl, ⟨[.string x.f1], [.string x.f2], rfl, rfl, rfl⟩⟩
def rd_T86 (xs : List S86) (i : Int) : S86 := xs.getD i.toNat z86
theorem at_T86 {w : World} {A : Option Addr} {n : Nat} {xs : List S86} (h : Kd.C k86 w A n xs) (i : Int) (h0 : 0 ≤ i) (h1 : i < n) : ∃ ad , A = some ad ∧ w.cell? (ad.add (i.toNat * 3)) = some (.int .i64 (rd_T86 xs i).f0) ∧ w.cell? ⟨(ad.add (i.toNat * 3)).block, (ad.add (i.toNat * 3)).off + 1, none⟩ = some (.string (rd_T86 xs i).f1) ∧ w.cell? ⟨(ad.add (i.toNat * 3)).block, (ad.add (i.toNat * 3)).off + 2, none⟩ = some (.string (rd_T86 xs i).f2) := by
 obtain ⟨ad, c, e, _, hK, hc0⟩ := Kd.C_get h z86 i h0 h1
 have hc : ∀ j u, c[j]? = some u → w.cell? (ad.add (i.toNat * 3 + j)) = some u := hc0
 obtain rfl := k86_open hK
 exact ⟨ad, e, hc 0 _ rfl, by rw [← add_field _ _ 1 (by omega)]; exact hc 1 _ rfl, by rw [← add_field _ _ 2 (by omega)]; exact hc 2 _ rfl⟩

structure S42 where
 f0 : Int
 f1 : ByteArray
 f2 : Int
 f3 : Int
 f4 : Bool
 f5 : (List S78)
 f6 : (List S78)
 f7 : Bool
def k42 : Kd S42 := Kd.iso (Kd.pair (Kd.int .i64) (Kd.pair Kd.string (Kd.pair (Kd.int .i64) (Kd.pair (Kd.int .i64) (Kd.pair Kd.bool (Kd.pair (Kd.slice 78 k78) (Kd.pair (Kd.slice 78 k78) Kd.bool))))))) (fun x : S42 => (x.f0, x.f1, x.f2, x.f3, x.f4, x.f5, x.f6, x.f7))
theorem k42_open {w : World} {x : S42} {cs : List Value} (h : k42.K w x cs) : ∃ A5 c5 A6 c6, cs = [.int .i64 x.f0, .string x.f1, .int .i64 x.f2, .int .i64 x.f3, .bool x.f4, .slice A5 x.f5.length c5, .slice A6 x.f6.length c6, .bool x.f7] ∧ x.f5.length ≤ c5 ∧ k78.C w A5 x.f5.length x.f5 ∧ x.f6.length ≤ c6 ∧ k78.C w A6 x.f6.length x.f6 := by
 obtain ⟨_, _, rfl, rfl, ⟨_, _, rfl, rfl, ⟨_, _, rfl, rfl, ⟨_, _, rfl, rfl, ⟨_, _, rfl, rfl, ⟨_, _, rfl, ⟨A5, c5, rfl, l5, g5⟩, ⟨_, _, rfl, ⟨A6, c6, rfl, l6, g6⟩, rfl⟩⟩⟩⟩⟩⟩⟩ := h
 exact ⟨A5, c5, A6, c6, rfl, l5, g5, l6, g6⟩
structure S45 where
 f0 : Int
 f1 : ByteArray
 f2 : Int
 f3 : Int
 f4 : Bool
 f5 : (List S86)
 f6 : (List S86)
 f7 : Bool
structure S53 where
 f0 : Int
 f1 : Int
 f2 : (List S78)
def k53 : Kd S53 := Kd.iso (Kd.pair (Kd.int .i64) (Kd.pair (Kd.int .i64) (Kd.slice 78 k78))) (fun x : S53 => (x.f0, x.f1, x.f2))
theorem k53_open {w : World} {x : S53} {cs : List Value} (h : k53.K w x cs) : ∃ A2 c2, cs = [.int .i64 x.f0, .int .i64 x.f1, .slice A2 x.f2.length c2] ∧ x.f2.length ≤ c2 ∧ k78.C w A2 x.f2.length x.f2 := by
 obtain ⟨_, _, rfl, rfl, ⟨_, _, rfl, rfl, ⟨A2, c2, rfl, l2, g2⟩⟩⟩ := h
 exact ⟨A2, c2, rfl, l2, g2⟩
structure S57 where
 f0 : Int
 f1 : Int
 f2 : (List S86)
def k57 : Kd S57 := Kd.iso (Kd.pair (Kd.int .i64) (Kd.pair (Kd.int .i64) (Kd.slice 86 k86))) (fun x : S57 => (x.f0, x.f1, x.f2))
structure S67 where
 f0 : ByteArray
 f1 : ByteArray
 f2 : (List S57)
def k67 : Kd S67 := Kd.iso (Kd.pair Kd.string (Kd.pair Kd.string (Kd.slice 57 k57))) (fun x : S67 => (x.f0, x.f1, x.f2))
end
theorem Ev.succ {α : Type} {g : Nat → Option α} {r : α} (h : Ev (fun k => g (k + 1)) r) : Ev g r := Ev.step (fun _ => rfl) h
theorem ev_eq {α : Type} {g : Nat → Option α} {r r' : α} (h : Ev g r) (e : r = r') : Ev g r' := e ▸ h
theorem w64 {n : Int} (h : -9223372036854775808 ≤ n) (h' : n ≤ 9223372036854775807) : wrap64 n = n := by unfold wrap64; omega
theorem ba_ext {a b : ByteArray} (h : a.toList = b.toList) : a = b := by
 have h1 : a.data.toList = b.data.toList := by rw [← ByteArray.toList_eq, ← ByteArray.toList_eq]; exact h
 cases a; cases b; simp at h1; rw [h1]
section
attribute [local go_sem] max2_int min2_int max_two min_two max_three min_three max_four min_four
def impl_isName.f (a0 : Int) : Option (Bool) := if a0 ≥ 65 then (some (decide (a0 ≤ 70))) else (some false)
set_option maxHeartbeats 8000000 in
set_option maxRecDepth 100000 in
theorem impl_isName.calls (a0 : Int) (r : Bool) (w : World) (h : impl_isName.f a0 = some r) :
  Calls Try.prog 122 #[.int .u8 a0] w fun e w' => e = .returned (.bool r) ∧ Drawn0 w w' := by
 have H : (if a0 ≥ 65 then (some (decide (a0 ≤ 70))) else (some false)) = some r := h
 clear h
 by_cases c2 : a0 ≥ 65
 ·rw [if_pos c2] at H
  have c2b0 : decide (65 ≤ a0) = true := decide_eq_true c2
  clear c2
  obtain rfl := Option.some.inj H
  go_enter Try.func122, Try.ntmps122
  go_wp2
  go_ret
  exact ⟨a30_, a28_⟩
 ·rw [if_neg c2] at H
  have c2b0 : decide (65 ≤ a0) = false := decide_eq_false c2
  clear c2
  obtain rfl := Option.some.inj H
  go_enter Try.func122, Try.ntmps122
  go_wp2
  go_ret
  exact ⟨a30_, a28_⟩
end
section
attribute [local go_sem] max2_int min2_int max_two min_two max_three min_three max_four min_four
def impl_isPlain.f (a0 : Int) : Option (Bool) := if a0 ≥ 97 then (if a0 ≤ 122 then (some true) else (if a0 ≥ 48 then (if a0 ≤ 57 then (some true) else (if a0 = 32 then (some true) else (if a0 = 46 then (some true) else (some (a0 == 44))))) else (if a0 = 32 then (some true) else (if a0 = 46 then (some true) else (some (a0 == 44)))))) else (if a0 ≥ 48 then (if a0 ≤ 57 then (some true) else (if a0 = 32 then (some true) else (if a0 = 46 then (some true) else (some (a0 == 44))))) else (if a0 = 32 then (some true) else (if a0 = 46 then (some true) else (some (a0 == 44)))))
set_option maxHeartbeats 8000000 in
set_option maxRecDepth 100000 in
theorem impl_isPlain.calls (a0 : Int) (r : Bool) (w : World) (h : impl_isPlain.f a0 = some r) :
  Calls Try.prog 123 #[.int .u8 a0] w fun e w' => e = .returned (.bool r) ∧ Drawn0 w w' := by
 have H : (if a0 ≥ 97 then (if a0 ≤ 122 then (some true) else (if a0 ≥ 48 then (if a0 ≤ 57 then (some true) else (if a0 = 32 then (some true) else (if a0 = 46 then (some true) else (some (a0 == 44))))) else (if a0 = 32 then (some true) else (if a0 = 46 then (some true) else (some (a0 == 44)))))) else (if a0 ≥ 48 then (if a0 ≤ 57 then (some true) else (if a0 = 32 then (some true) else (if a0 = 46 then (some true) else (some (a0 == 44))))) else (if a0 = 32 then (some true) else (if a0 = 46 then (some true) else (some (a0 == 44)))))) = some r := h
 clear h
 by_cases c2 : a0 ≥ 97
 ·rw [if_pos c2] at H
  have c2b0 : decide (97 ≤ a0) = true := decide_eq_true c2
  clear c2
  by_cases c3 : a0 ≤ 122
  ·rw [if_pos c3] at H
   have c3b0 : decide (a0 ≤ 122) = true := decide_eq_true c3
   clear c3
   obtain rfl := Option.some.inj H
   go_enter Try.func123, Try.ntmps123
   go_wp2
   go_ret
   exact ⟨a30_, a28_⟩
  ·rw [if_neg c3] at H
   have c3b0 : decide (a0 ≤ 122) = false := decide_eq_false c3
   clear c3
   by_cases c4 : a0 ≥ 48
   ·rw [if_pos c4] at H
    have c4b0 : decide (48 ≤ a0) = true := decide_eq_true c4
    clear c4
    by_cases c5 : a0 ≤ 57
    ·rw [if_pos c5] at H
     have c5b0 : decide (a0 ≤ 57) = true := decide_eq_true c5
     clear c5
     obtain rfl := Option.some.inj H
     go_enter Try.func123, Try.ntmps123
     go_wp2
     go_ret
     exact ⟨a30_, a28_⟩
    ·rw [if_neg c5] at H
     have c5b0 : decide (a0 ≤ 57) = false := decide_eq_false c5
     clear c5
     by_cases c6 : a0 = 32
     ·rw [if_pos c6] at H
      have c6b0 : (a0 == 32) = true := beq_iff_eq.mpr c6
      have c6b1 : (a0 != 32) = false := bne_eq_false_iff_eq.mpr c6
      clear c6
      obtain rfl := Option.some.inj H
      go_enter Try.func123, Try.ntmps123
      go_wp2
      go_ret
      exact ⟨a30_, a28_⟩
     ·rw [if_neg c6] at H
      have c6b0 : (a0 == 32) = false := beq_eq_false_iff_ne.mpr c6
      have c6b1 : (a0 != 32) = true := bne_iff_ne.mpr c6
      by_cases c7 : a0 = 46
      ·rw [if_pos c7] at H
       have c7b0 : (a0 == 46) = true := beq_iff_eq.mpr c7
       have c7b1 : (a0 != 46) = false := bne_eq_false_iff_eq.mpr c7
       clear c7
       obtain rfl := Option.some.inj H
       go_enter Try.func123, Try.ntmps123
       go_wp2
       go_ret
       exact ⟨a30_, a28_⟩
      ·rw [if_neg c7] at H
       have c7b0 : (a0 == 46) = false := beq_eq_false_iff_ne.mpr c7
       have c7b1 : (a0 != 46) = true := bne_iff_ne.mpr c7
       obtain rfl := Option.some.inj H
       go_enter Try.func123, Try.ntmps123
       go_wp2
       go_ret
       exact ⟨a30_, a28_⟩
   ·rw [if_neg c4] at H
    have c4b0 : decide (48 ≤ a0) = false := decide_eq_false c4
    clear c4
    by_cases c8 : a0 = 32
    ·rw [if_pos c8] at H
     have c8b0 : (a0 == 32) = true := beq_iff_eq.mpr c8
     have c8b1 : (a0 != 32) = false := bne_eq_false_iff_eq.mpr c8
     clear c8
     obtain rfl := Option.some.inj H
     go_enter Try.func123, Try.ntmps123
     go_wp2
     go_ret
     exact ⟨a30_, a28_⟩
    ·rw [if_neg c8] at H
     have c8b0 : (a0 == 32) = false := beq_eq_false_iff_ne.mpr c8
     have c8b1 : (a0 != 32) = true := bne_iff_ne.mpr c8
     by_cases c9 : a0 = 46
     ·rw [if_pos c9] at H
      have c9b0 : (a0 == 46) = true := beq_iff_eq.mpr c9
      have c9b1 : (a0 != 46) = false := bne_eq_false_iff_eq.mpr c9
      clear c9
      obtain rfl := Option.some.inj H
      go_enter Try.func123, Try.ntmps123
      go_wp2
      go_ret
      exact ⟨a30_, a28_⟩
     ·rw [if_neg c9] at H
      have c9b0 : (a0 == 46) = false := beq_eq_false_iff_ne.mpr c9
      have c9b1 : (a0 != 46) = true := bne_iff_ne.mpr c9
      obtain rfl := Option.some.inj H
      go_enter Try.func123, Try.ntmps123
      go_wp2
      go_ret
      exact ⟨a30_, a28_⟩
 ·rw [if_neg c2] at H
  have c2b0 : decide (97 ≤ a0) = false := decide_eq_false c2
  clear c2
  by_cases c10 : a0 ≥ 48
  ·rw [if_pos c10] at H
   have c10b0 : decide (48 ≤ a0) = true := decide_eq_true c10
   clear c10
   by_cases c11 : a0 ≤ 57
   ·rw [if_pos c11] at H
    have c11b0 : decide (a0 ≤ 57) = true := decide_eq_true c11
    clear c11
    obtain rfl := Option.some.inj H
    go_enter Try.func123, Try.ntmps123
    go_wp2
    go_ret
    exact ⟨a30_, a28_⟩
   ·rw [if_neg c11] at H
    have c11b0 : decide (a0 ≤ 57) = false := decide_eq_false c11
    clear c11
    by_cases c12 : a0 = 32
    ·rw [if_pos c12] at H
     have c12b0 : (a0 == 32) = true := beq_iff_eq.mpr c12
     have c12b1 : (a0 != 32) = false := bne_eq_false_iff_eq.mpr c12
     clear c12
     obtain rfl := Option.some.inj H
     go_enter Try.func123, Try.ntmps123
     go_wp2
     go_ret
     exact ⟨a30_, a28_⟩
    ·rw [if_neg c12] at H
     have c12b0 : (a0 == 32) = false := beq_eq_false_iff_ne.mpr c12
     have c12b1 : (a0 != 32) = true := bne_iff_ne.mpr c12
     by_cases c13 : a0 = 46
     ·rw [if_pos c13] at H
      have c13b0 : (a0 == 46) = true := beq_iff_eq.mpr c13
      have c13b1 : (a0 != 46) = false := bne_eq_false_iff_eq.mpr c13
      clear c13
      obtain rfl := Option.some.inj H
      go_enter Try.func123, Try.ntmps123
      go_wp2
      go_ret
      exact ⟨a30_, a28_⟩
     ·rw [if_neg c13] at H
      have c13b0 : (a0 == 46) = false := beq_eq_false_iff_ne.mpr c13
      have c13b1 : (a0 != 46) = true := bne_iff_ne.mpr c13
      obtain rfl := Option.some.inj H
      go_enter Try.func123, Try.ntmps123
      go_wp2
      go_ret
      exact ⟨a30_, a28_⟩
  ·rw [if_neg c10] at H
   have c10b0 : decide (48 ≤ a0) = false := decide_eq_false c10
   clear c10
   by_cases c14 : a0 = 32
   ·rw [if_pos c14] at H
    have c14b0 : (a0 == 32) = true := beq_iff_eq.mpr c14
    have c14b1 : (a0 != 32) = false := bne_eq_false_iff_eq.mpr c14
    clear c14
    obtain rfl := Option.some.inj H
    go_enter Try.func123, Try.ntmps123
    go_wp2
    go_ret
    exact ⟨a30_, a28_⟩
   ·rw [if_neg c14] at H
    have c14b0 : (a0 == 32) = false := beq_eq_false_iff_ne.mpr c14
    have c14b1 : (a0 != 32) = true := bne_iff_ne.mpr c14
    by_cases c15 : a0 = 46
    ·rw [if_pos c15] at H
     have c15b0 : (a0 == 46) = true := beq_iff_eq.mpr c15
     have c15b1 : (a0 != 46) = false := bne_eq_false_iff_eq.mpr c15
     clear c15
     obtain rfl := Option.some.inj H
     go_enter Try.func123, Try.ntmps123
     go_wp2
     go_ret
     exact ⟨a30_, a28_⟩
    ·rw [if_neg c15] at H
     have c15b0 : (a0 == 46) = false := beq_eq_false_iff_ne.mpr c15
     have c15b1 : (a0 != 46) = true := bne_iff_ne.mpr c15
     obtain rfl := Option.some.inj H
     go_enter Try.func123, Try.ntmps123
     go_wp2
     go_ret
     exact ⟨a30_, a28_⟩
end
section
attribute [local go_sem] max2_int min2_int max_two min_two max_three min_three max_four min_four
def impl_GoodText.l0 : Nat → ByteArray → Int → Int → Option (Bool)
 | 0, _, _, _ => none
 | k + 1, x0, x5, x6 => if x6 < x5 then (if 0 ≤ x6 then (if x6 < (x0.size : Int) then ((impl_isName.f (bt x0 x6)).bind fun t101 => (if t101 = true then (impl_GoodText.l0 k x0 x5 (wrap64 (x6 + 1))) else ((impl_isPlain.f (bt x0 x6)).bind fun t102 => (if t102 = true then (impl_GoodText.l0 k x0 x5 (wrap64 (x6 + 1))) else (if (bt x0 x6) = 47 then (impl_GoodText.l0 k x0 x5 (wrap64 (x6 + 1))) else (some false)))))) else (none)) else (none)) else (some (decide ((x0.size : Int) ≤ 300)))
def impl_GoodText.f (k : Nat) (a0 : ByteArray) : Option (Bool) := impl_GoodText.l0 k a0 (a0.size : Int) 0
set_option maxHeartbeats 8000000 in
set_option maxRecDepth 100000 in
theorem impl_GoodText.calls (k : Nat) (a0 : ByteArray) (r : Bool) (w : World) (h : impl_GoodText.f k a0 = some r) :
  Calls Try.prog 102 #[.string a0] w fun e w' => e = .returned (.bool r) ∧ Drawn0 w w' := by
 have H : (impl_GoodText.l0 k a0 (a0.size : Int) 0) = some r := h
 clear h
 have H' := mz H
 clear H
 go_enter Try.func102, Try.ntmps102
 go_wp2
 go_loopg [6] k (fun kq v6 w' => ∃ (x6_1 : Int), v6 = .int .i64 x6_1 ∧ Aside0 (impl_GoodText.l0 kq a0 (a0.size : Int) x6_1 = some r) ∧ Aside0 (kq ≤ k) ∧ Drawn0 w w')
 case atStart => exact ⟨(0), a30_, H', ⟨Nat.le_refl _⟩, by repeat (first | exact Drawn0.refl _ | apply Drawn0.step)⟩
 case round =>
  clear H'
  try clear c1
  obtain ⟨x6_1, rfl, HA, HK1, ⟨m1, rfl⟩⟩ := hrel
  cases gk with
  | zero => exact absurd HA.out (by simp [impl_GoodText.l0])
  | succ k1 =>
   have H := HA.out
   clear HA
   simp only [impl_GoodText.l0] at H
   by_cases c2 : x6_1 < (a0.size : Int)
   ·rw [if_pos c2] at H
    have c2b0 : decide (x6_1 < (a0.size : Int)) = true := decide_eq_true c2
    clear c2
    by_cases c3 : 0 ≤ x6_1
    ·rw [if_pos c3] at H
     have c3b0 : decide (0 ≤ x6_1) = true := decide_eq_true c3
     clear c3
     by_cases c4 : x6_1 < (a0.size : Int)
     ·rw [if_pos c4] at H
      have c4b0 : decide (x6_1 < (a0.size : Int)) = true := decide_eq_true c4
      clear c4
      replace H := be0_ H
      obtain ⟨t101, A60, H⟩ := H
      replace H : (if t101 = true then (impl_GoodText.l0 k1 a0 (a0.size : Int) (wrap64 (x6_1 + 1))) else ((impl_isPlain.f (bt a0 x6_1)).bind fun t102 => (if t102 = true then (impl_GoodText.l0 k1 a0 (a0.size : Int) (wrap64 (x6_1 + 1))) else (if (bt a0 x6_1) = 47 then (impl_GoodText.l0 k1 a0 (a0.size : Int) (wrap64 (x6_1 + 1))) else (some false))))) = some r := H
      have A6 := mz A60
      clear A60
      by_cases c7 : t101 = true
      ·subst c7
       have H1 : (impl_GoodText.l0 k1 a0 (a0.size : Int) (wrap64 (x6_1 + 1))) = some r := by rw [if_pos rfl] at H; exact H
       clear H
       have H := H1
       clear H1
       have H' := mz H
       clear H
       have p5 : 0 ≤ (x6_1 : Int) := of_decide_eq_true a29_
       have q5 : x6_1 < (a0.size : Int) := of_decide_eq_true a29_
       have hx5 := bt_at a0 x6_1
       replace p5 := eq_true p5
       replace q5 := eq_true q5
       go_wp2_with (first | ((with_reducible refine gate_callee (f := 122) rfl ?_); refine goesL_ (some 12) rfl rfl Try.func122 (by kernel_rfl) rfl #[.int .u8 (bt a0 x6_1)] rfl a11_ ?_; (with_reducible refine (impl_isName.calls (bt a0 x6_1) true _ A6.out).mono ?_); rintro e w' ⟨rfl, ⟨nd, rfl⟩⟩; refine ⟨_, rfl, ?_⟩))
       go_roundg k1
       case measure => have := HK1.out; omega
       case rel => exact ⟨(wrap64 (x6_1 + 1)), a30_, H', ⟨by have := HK1.out; omega⟩, by repeat (first | exact Drawn0.refl _ | apply Drawn0.step)⟩
      ·replace c7 := Bool.eq_false_iff.mpr c7
       subst c7
       have H1 : ((impl_isPlain.f (bt a0 x6_1)).bind fun t102 => (if t102 = true then (impl_GoodText.l0 k1 a0 (a0.size : Int) (wrap64 (x6_1 + 1))) else (if (bt a0 x6_1) = 47 then (impl_GoodText.l0 k1 a0 (a0.size : Int) (wrap64 (x6_1 + 1))) else (some false)))) = some r := by rw [if_neg (show ¬ (false = true) by decide)] at H; exact H
       clear H
       have H := H1
       clear H1
       replace H := be0_ H
       obtain ⟨t102, A90, H⟩ := H
       replace H : (if t102 = true then (impl_GoodText.l0 k1 a0 (a0.size : Int) (wrap64 (x6_1 + 1))) else (if (bt a0 x6_1) = 47 then (impl_GoodText.l0 k1 a0 (a0.size : Int) (wrap64 (x6_1 + 1))) else (some false))) = some r := H
       have A9 := mz A90
       clear A90
       by_cases c10 : t102 = true
       ·subst c10
        have H1 : (impl_GoodText.l0 k1 a0 (a0.size : Int) (wrap64 (x6_1 + 1))) = some r := by rw [if_pos rfl] at H; exact H
        clear H
        have H := H1
        clear H1
        have H' := mz H
        clear H
        have p5 : 0 ≤ (x6_1 : Int) := of_decide_eq_true a29_
        have q5 : x6_1 < (a0.size : Int) := of_decide_eq_true a29_
        have hx5 := bt_at a0 x6_1
        replace p5 := eq_true p5
        replace q5 := eq_true q5
        go_wp2_with (first | ((with_reducible refine gate_callee (f := 122) rfl ?_); refine goesL_ (some 12) rfl rfl Try.func122 (by kernel_rfl) rfl #[.int .u8 (bt a0 x6_1)] rfl a11_ ?_; (with_reducible refine (impl_isName.calls (bt a0 x6_1) false _ A6.out).mono ?_); rintro e w' ⟨rfl, ⟨nd, rfl⟩⟩; refine ⟨_, rfl, ?_⟩; have p8 : 0 ≤ (x6_1 : Int) := of_decide_eq_true a29_; have q8 : x6_1 < (a0.size : Int) := of_decide_eq_true a29_; have hx8 := bt_at a0 x6_1; replace p8 := eq_true p8; replace q8 := eq_true q8) | (go_at_call 123; (with_reducible refine (impl_isPlain.calls (bt a0 x6_1) true _ A9.out).mono ?_); rintro e w' ⟨rfl, ⟨nd, rfl⟩⟩))
        go_roundg k1
        case measure => have := HK1.out; omega
        case rel => exact ⟨(wrap64 (x6_1 + 1)), a30_, H', ⟨by have := HK1.out; omega⟩, by repeat (first | exact Drawn0.refl _ | apply Drawn0.step)⟩
       ·replace c10 := Bool.eq_false_iff.mpr c10
        subst c10
        have H1 : (if (bt a0 x6_1) = 47 then (impl_GoodText.l0 k1 a0 (a0.size : Int) (wrap64 (x6_1 + 1))) else (some false)) = some r := by rw [if_neg (show ¬ (false = true) by decide)] at H; exact H
        clear H
        have H := H1
        clear H1
        by_cases c12 : (bt a0 x6_1) = 47
        ·rw [if_pos c12] at H
         have c12b0 : ((bt a0 x6_1) == 47) = true := beq_iff_eq.mpr c12
         have c12b1 : ((bt a0 x6_1) != 47) = false := bne_eq_false_iff_eq.mpr c12
         clear c12
         have H' := mz H
         clear H
         have p5 : 0 ≤ (x6_1 : Int) := of_decide_eq_true a29_
         have q5 : x6_1 < (a0.size : Int) := of_decide_eq_true a29_
         have hx5 := bt_at a0 x6_1
         replace p5 := eq_true p5
         replace q5 := eq_true q5
         go_wp2_with (first | ((with_reducible refine gate_callee (f := 122) rfl ?_); refine goesL_ (some 12) rfl rfl Try.func122 (by kernel_rfl) rfl #[.int .u8 (bt a0 x6_1)] rfl a11_ ?_; (with_reducible refine (impl_isName.calls (bt a0 x6_1) false _ A6.out).mono ?_); rintro e w' ⟨rfl, ⟨nd, rfl⟩⟩; refine ⟨_, rfl, ?_⟩; have p8 : 0 ≤ (x6_1 : Int) := of_decide_eq_true a29_; have q8 : x6_1 < (a0.size : Int) := of_decide_eq_true a29_; have hx8 := bt_at a0 x6_1; replace p8 := eq_true p8; replace q8 := eq_true q8) | (go_at_call 123; (with_reducible refine (impl_isPlain.calls (bt a0 x6_1) false _ A9.out).mono ?_); rintro e w' ⟨rfl, ⟨nd, rfl⟩⟩; have p11 : 0 ≤ (x6_1 : Int) := of_decide_eq_true a29_; have q11 : x6_1 < (a0.size : Int) := of_decide_eq_true a29_; have hx11 := bt_at a0 x6_1; replace p11 := eq_true p11; replace q11 := eq_true q11))
         go_roundg k1
         case measure => have := HK1.out; omega
         case rel => exact ⟨(wrap64 (x6_1 + 1)), a30_, H', ⟨by have := HK1.out; omega⟩, by repeat (first | exact Drawn0.refl _ | apply Drawn0.step)⟩
        ·rw [if_neg c12] at H
         have c12b0 : ((bt a0 x6_1) == 47) = false := beq_eq_false_iff_ne.mpr c12
         have c12b1 : ((bt a0 x6_1) != 47) = true := bne_iff_ne.mpr c12
         obtain rfl := Option.some.inj H
         have p5 : 0 ≤ (x6_1 : Int) := of_decide_eq_true a29_
         have q5 : x6_1 < (a0.size : Int) := of_decide_eq_true a29_
         have hx5 := bt_at a0 x6_1
         replace p5 := eq_true p5
         replace q5 := eq_true q5
         go_wp2_with (first | ((with_reducible refine gate_callee (f := 122) rfl ?_); refine goesL_ (some 12) rfl rfl Try.func122 (by kernel_rfl) rfl #[.int .u8 (bt a0 x6_1)] rfl a11_ ?_; (with_reducible refine (impl_isName.calls (bt a0 x6_1) false _ A6.out).mono ?_); rintro e w' ⟨rfl, ⟨nd, rfl⟩⟩; refine ⟨_, rfl, ?_⟩; have p8 : 0 ≤ (x6_1 : Int) := of_decide_eq_true a29_; have q8 : x6_1 < (a0.size : Int) := of_decide_eq_true a29_; have hx8 := bt_at a0 x6_1; replace p8 := eq_true p8; replace q8 := eq_true q8) | (go_at_call 123; (with_reducible refine (impl_isPlain.calls (bt a0 x6_1) false _ A9.out).mono ?_); rintro e w' ⟨rfl, ⟨nd, rfl⟩⟩; have p11 : 0 ≤ (x6_1 : Int) := of_decide_eq_true a29_; have q11 : x6_1 < (a0.size : Int) := of_decide_eq_true a29_; have hx11 := bt_at a0 x6_1; replace p11 := eq_true p11; replace q11 := eq_true q11))
         go_ret
         exact ⟨a30_, a28_⟩
     ·rw [if_neg c4] at H
      exact absurd H (by simp)
    ·rw [if_neg c3] at H
     exact absurd H (by simp)
   ·rw [if_neg c2] at H
    have c2b0 : decide (x6_1 < (a0.size : Int)) = false := decide_eq_false c2
    clear c2
    obtain rfl := Option.some.inj H
    go_wp2
    go_ret
    exact ⟨a30_, a28_⟩
end
section
attribute [local go_sem] max2_int min2_int max_two min_two max_three min_three max_four min_four
def spec_l1Open.f (a0 : Int) : Option (Bool) := if a0 ≥ 65 then (some (decide (a0 ≤ 70))) else (some false)
set_option maxHeartbeats 8000000 in
set_option maxRecDepth 100000 in
theorem spec_l1Open.calls (a0 : Int) (r : Bool) (w : World) (h : spec_l1Open.f a0 = some r) :
  Calls Try.prog 134 #[.int .u8 a0] w fun e w' => e = .returned (.bool r) ∧ Drawn0 w w' := by
 have H : (if a0 ≥ 65 then (some (decide (a0 ≤ 70))) else (some false)) = some r := h
 clear h
 by_cases c2 : a0 ≥ 65
 ·rw [if_pos c2] at H
  have c2b0 : decide (65 ≤ a0) = true := decide_eq_true c2
  clear c2
  obtain rfl := Option.some.inj H
  go_enter Try.func134, Try.ntmps134
  go_wp2
  go_ret
  exact ⟨a30_, a28_⟩
 ·rw [if_neg c2] at H
  have c2b0 : decide (65 ≤ a0) = false := decide_eq_false c2
  clear c2
  obtain rfl := Option.some.inj H
  go_enter Try.func134, Try.ntmps134
  go_wp2
  go_ret
  exact ⟨a30_, a28_⟩
end
section
attribute [local go_sem] max2_int min2_int max_two min_two max_three min_three max_four min_four
def spec_l1Plain.f (a0 : Int) : Option (Bool) := if a0 ≥ 97 then (if a0 ≤ 122 then (some true) else (if a0 ≥ 48 then (if a0 ≤ 57 then (some true) else (if a0 = 32 then (some true) else (if a0 = 46 then (some true) else (some (a0 == 44))))) else (if a0 = 32 then (some true) else (if a0 = 46 then (some true) else (some (a0 == 44)))))) else (if a0 ≥ 48 then (if a0 ≤ 57 then (some true) else (if a0 = 32 then (some true) else (if a0 = 46 then (some true) else (some (a0 == 44))))) else (if a0 = 32 then (some true) else (if a0 = 46 then (some true) else (some (a0 == 44)))))
set_option maxHeartbeats 8000000 in
set_option maxRecDepth 100000 in
theorem spec_l1Plain.calls (a0 : Int) (r : Bool) (w : World) (h : spec_l1Plain.f a0 = some r) :
  Calls Try.prog 135 #[.int .u8 a0] w fun e w' => e = .returned (.bool r) ∧ Drawn0 w w' := by
 have H : (if a0 ≥ 97 then (if a0 ≤ 122 then (some true) else (if a0 ≥ 48 then (if a0 ≤ 57 then (some true) else (if a0 = 32 then (some true) else (if a0 = 46 then (some true) else (some (a0 == 44))))) else (if a0 = 32 then (some true) else (if a0 = 46 then (some true) else (some (a0 == 44)))))) else (if a0 ≥ 48 then (if a0 ≤ 57 then (some true) else (if a0 = 32 then (some true) else (if a0 = 46 then (some true) else (some (a0 == 44))))) else (if a0 = 32 then (some true) else (if a0 = 46 then (some true) else (some (a0 == 44)))))) = some r := h
 clear h
 by_cases c2 : a0 ≥ 97
 ·rw [if_pos c2] at H
  have c2b0 : decide (97 ≤ a0) = true := decide_eq_true c2
  clear c2
  by_cases c3 : a0 ≤ 122
  ·rw [if_pos c3] at H
   have c3b0 : decide (a0 ≤ 122) = true := decide_eq_true c3
   clear c3
   obtain rfl := Option.some.inj H
   go_enter Try.func135, Try.ntmps135
   go_wp2
   go_ret
   exact ⟨a30_, a28_⟩
  ·rw [if_neg c3] at H
   have c3b0 : decide (a0 ≤ 122) = false := decide_eq_false c3
   clear c3
   by_cases c4 : a0 ≥ 48
   ·rw [if_pos c4] at H
    have c4b0 : decide (48 ≤ a0) = true := decide_eq_true c4
    clear c4
    by_cases c5 : a0 ≤ 57
    ·rw [if_pos c5] at H
     have c5b0 : decide (a0 ≤ 57) = true := decide_eq_true c5
     clear c5
     obtain rfl := Option.some.inj H
     go_enter Try.func135, Try.ntmps135
     go_wp2
     go_ret
     exact ⟨a30_, a28_⟩
    ·rw [if_neg c5] at H
     have c5b0 : decide (a0 ≤ 57) = false := decide_eq_false c5
     clear c5
     by_cases c6 : a0 = 32
     ·rw [if_pos c6] at H
      have c6b0 : (a0 == 32) = true := beq_iff_eq.mpr c6
      have c6b1 : (a0 != 32) = false := bne_eq_false_iff_eq.mpr c6
      clear c6
      obtain rfl := Option.some.inj H
      go_enter Try.func135, Try.ntmps135
      go_wp2
      go_ret
      exact ⟨a30_, a28_⟩
     ·rw [if_neg c6] at H
      have c6b0 : (a0 == 32) = false := beq_eq_false_iff_ne.mpr c6
      have c6b1 : (a0 != 32) = true := bne_iff_ne.mpr c6
      by_cases c7 : a0 = 46
      ·rw [if_pos c7] at H
       have c7b0 : (a0 == 46) = true := beq_iff_eq.mpr c7
       have c7b1 : (a0 != 46) = false := bne_eq_false_iff_eq.mpr c7
       clear c7
       obtain rfl := Option.some.inj H
       go_enter Try.func135, Try.ntmps135
       go_wp2
       go_ret
       exact ⟨a30_, a28_⟩
      ·rw [if_neg c7] at H
       have c7b0 : (a0 == 46) = false := beq_eq_false_iff_ne.mpr c7
       have c7b1 : (a0 != 46) = true := bne_iff_ne.mpr c7
       obtain rfl := Option.some.inj H
       go_enter Try.func135, Try.ntmps135
       go_wp2
       go_ret
       exact ⟨a30_, a28_⟩
   ·rw [if_neg c4] at H
    have c4b0 : decide (48 ≤ a0) = false := decide_eq_false c4
    clear c4
    by_cases c8 : a0 = 32
    ·rw [if_pos c8] at H
     have c8b0 : (a0 == 32) = true := beq_iff_eq.mpr c8
     have c8b1 : (a0 != 32) = false := bne_eq_false_iff_eq.mpr c8
     clear c8
     obtain rfl := Option.some.inj H
     go_enter Try.func135, Try.ntmps135
     go_wp2
     go_ret
     exact ⟨a30_, a28_⟩
    ·rw [if_neg c8] at H
     have c8b0 : (a0 == 32) = false := beq_eq_false_iff_ne.mpr c8
     have c8b1 : (a0 != 32) = true := bne_iff_ne.mpr c8
     by_cases c9 : a0 = 46
     ·rw [if_pos c9] at H
      have c9b0 : (a0 == 46) = true := beq_iff_eq.mpr c9
      have c9b1 : (a0 != 46) = false := bne_eq_false_iff_eq.mpr c9
      clear c9
      obtain rfl := Option.some.inj H
      go_enter Try.func135, Try.ntmps135
      go_wp2
      go_ret
      exact ⟨a30_, a28_⟩
     ·rw [if_neg c9] at H
      have c9b0 : (a0 == 46) = false := beq_eq_false_iff_ne.mpr c9
      have c9b1 : (a0 != 46) = true := bne_iff_ne.mpr c9
      obtain rfl := Option.some.inj H
      go_enter Try.func135, Try.ntmps135
      go_wp2
      go_ret
      exact ⟨a30_, a28_⟩
 ·rw [if_neg c2] at H
  have c2b0 : decide (97 ≤ a0) = false := decide_eq_false c2
  clear c2
  by_cases c10 : a0 ≥ 48
  ·rw [if_pos c10] at H
   have c10b0 : decide (48 ≤ a0) = true := decide_eq_true c10
   clear c10
   by_cases c11 : a0 ≤ 57
   ·rw [if_pos c11] at H
    have c11b0 : decide (a0 ≤ 57) = true := decide_eq_true c11
    clear c11
    obtain rfl := Option.some.inj H
    go_enter Try.func135, Try.ntmps135
    go_wp2
    go_ret
    exact ⟨a30_, a28_⟩
   ·rw [if_neg c11] at H
    have c11b0 : decide (a0 ≤ 57) = false := decide_eq_false c11
    clear c11
    by_cases c12 : a0 = 32
    ·rw [if_pos c12] at H
     have c12b0 : (a0 == 32) = true := beq_iff_eq.mpr c12
     have c12b1 : (a0 != 32) = false := bne_eq_false_iff_eq.mpr c12
     clear c12
     obtain rfl := Option.some.inj H
     go_enter Try.func135, Try.ntmps135
     go_wp2
     go_ret
     exact ⟨a30_, a28_⟩
    ·rw [if_neg c12] at H
     have c12b0 : (a0 == 32) = false := beq_eq_false_iff_ne.mpr c12
     have c12b1 : (a0 != 32) = true := bne_iff_ne.mpr c12
     by_cases c13 : a0 = 46
     ·rw [if_pos c13] at H
      have c13b0 : (a0 == 46) = true := beq_iff_eq.mpr c13
      have c13b1 : (a0 != 46) = false := bne_eq_false_iff_eq.mpr c13
      clear c13
      obtain rfl := Option.some.inj H
      go_enter Try.func135, Try.ntmps135
      go_wp2
      go_ret
      exact ⟨a30_, a28_⟩
     ·rw [if_neg c13] at H
      have c13b0 : (a0 == 46) = false := beq_eq_false_iff_ne.mpr c13
      have c13b1 : (a0 != 46) = true := bne_iff_ne.mpr c13
      obtain rfl := Option.some.inj H
      go_enter Try.func135, Try.ntmps135
      go_wp2
      go_ret
      exact ⟨a30_, a28_⟩
  ·rw [if_neg c10] at H
   have c10b0 : decide (48 ≤ a0) = false := decide_eq_false c10
   clear c10
   by_cases c14 : a0 = 32
   ·rw [if_pos c14] at H
    have c14b0 : (a0 == 32) = true := beq_iff_eq.mpr c14
    have c14b1 : (a0 != 32) = false := bne_eq_false_iff_eq.mpr c14
    clear c14
    obtain rfl := Option.some.inj H
    go_enter Try.func135, Try.ntmps135
    go_wp2
    go_ret
    exact ⟨a30_, a28_⟩
   ·rw [if_neg c14] at H
    have c14b0 : (a0 == 32) = false := beq_eq_false_iff_ne.mpr c14
    have c14b1 : (a0 != 32) = true := bne_iff_ne.mpr c14
    by_cases c15 : a0 = 46
    ·rw [if_pos c15] at H
     have c15b0 : (a0 == 46) = true := beq_iff_eq.mpr c15
     have c15b1 : (a0 != 46) = false := bne_eq_false_iff_eq.mpr c15
     clear c15
     obtain rfl := Option.some.inj H
     go_enter Try.func135, Try.ntmps135
     go_wp2
     go_ret
     exact ⟨a30_, a28_⟩
    ·rw [if_neg c15] at H
     have c15b0 : (a0 == 46) = false := beq_eq_false_iff_ne.mpr c15
     have c15b1 : (a0 != 46) = true := bne_iff_ne.mpr c15
     obtain rfl := Option.some.inj H
     go_enter Try.func135, Try.ntmps135
     go_wp2
     go_ret
     exact ⟨a30_, a28_⟩
end
section
attribute [local go_sem] max2_int min2_int max_two min_two max_three min_three max_four min_four
def spec_l1Text.l0 : Nat → ByteArray → Int → Option (Bool)
 | 0, _, _ => none
 | k + 1, x0, x3 => if x3 < (x0.size : Int) then (if 0 ≤ x3 then ((spec_l1Open.f (bt x0 x3)).bind fun t101 => (if t101 = true then (spec_l1Text.l0 k x0 (wrap64 (x3 + 1))) else ((spec_l1Plain.f (bt x0 x3)).bind fun t102 => (if t102 = true then (spec_l1Text.l0 k x0 (wrap64 (x3 + 1))) else (if (bt x0 x3) = 47 then (spec_l1Text.l0 k x0 (wrap64 (x3 + 1))) else (some false)))))) else (none)) else (some true)
def spec_l1Text.f (k : Nat) (a0 : ByteArray) : Option (Bool) := spec_l1Text.l0 k a0 0
set_option maxHeartbeats 8000000 in
set_option maxRecDepth 100000 in
theorem spec_l1Text.calls (k : Nat) (a0 : ByteArray) (r : Bool) (w : World) (h : spec_l1Text.f k a0 = some r) :
  Calls Try.prog 120 #[.string a0] w fun e w' => e = .returned (.bool r) ∧ Drawn0 w w' := by
 have H : (spec_l1Text.l0 k a0 0) = some r := h
 clear h
 have H' := mz H
 clear H
 go_enter Try.func120, Try.ntmps120
 go_wp2
 go_loopg [3] k (fun kq v3 w' => ∃ (x3_1 : Int), v3 = .int .i64 x3_1 ∧ Aside0 (spec_l1Text.l0 kq a0 x3_1 = some r) ∧ Aside0 (kq ≤ k) ∧ Drawn0 w w')
 case atStart => exact ⟨(0), a30_, H', ⟨Nat.le_refl _⟩, by repeat (first | exact Drawn0.refl _ | apply Drawn0.step)⟩
 case round =>
  clear H'
  try clear c1
  obtain ⟨x3_1, rfl, HA, HK1, ⟨m1, rfl⟩⟩ := hrel
  cases gk with
  | zero => exact absurd HA.out (by simp [spec_l1Text.l0])
  | succ k1 =>
   have H := HA.out
   clear HA
   simp only [spec_l1Text.l0] at H
   by_cases c2 : x3_1 < (a0.size : Int)
   ·rw [if_pos c2] at H
    have c2b0 : decide (x3_1 < (a0.size : Int)) = true := decide_eq_true c2
    clear c2
    by_cases c3 : 0 ≤ x3_1
    ·rw [if_pos c3] at H
     have c3b0 : decide (0 ≤ x3_1) = true := decide_eq_true c3
     clear c3
     replace H := be0_ H
     obtain ⟨t101, A50, H⟩ := H
     replace H : (if t101 = true then (spec_l1Text.l0 k1 a0 (wrap64 (x3_1 + 1))) else ((spec_l1Plain.f (bt a0 x3_1)).bind fun t102 => (if t102 = true then (spec_l1Text.l0 k1 a0 (wrap64 (x3_1 + 1))) else (if (bt a0 x3_1) = 47 then (spec_l1Text.l0 k1 a0 (wrap64 (x3_1 + 1))) else (some false))))) = some r := H
     have A5 := mz A50
     clear A50
     by_cases c6 : t101 = true
     ·subst c6
      have H1 : (spec_l1Text.l0 k1 a0 (wrap64 (x3_1 + 1))) = some r := by rw [if_pos rfl] at H; exact H
      clear H
      have H := H1
      clear H1
      have H' := mz H
      clear H
      have p4 : 0 ≤ (x3_1 : Int) := of_decide_eq_true a29_
      have q4 : x3_1 < (a0.size : Int) := of_decide_eq_true a29_
      have hx4 := bt_at a0 x3_1
      replace p4 := eq_true p4
      replace q4 := eq_true q4
      go_wp2_with (first | ((with_reducible refine gate_callee (f := 134) rfl ?_); refine goesL_ (some 13) rfl rfl Try.func134 (by kernel_rfl) rfl #[.int .u8 (bt a0 x3_1)] rfl a11_ ?_; (with_reducible refine (spec_l1Open.calls (bt a0 x3_1) true _ A5.out).mono ?_); rintro e w' ⟨rfl, ⟨nd, rfl⟩⟩; refine ⟨_, rfl, ?_⟩))
      go_roundg k1
      case measure => have := HK1.out; omega
      case rel => exact ⟨(wrap64 (x3_1 + 1)), a30_, H', ⟨by have := HK1.out; omega⟩, by repeat (first | exact Drawn0.refl _ | apply Drawn0.step)⟩
     ·replace c6 := Bool.eq_false_iff.mpr c6
      subst c6
      have H1 : ((spec_l1Plain.f (bt a0 x3_1)).bind fun t102 => (if t102 = true then (spec_l1Text.l0 k1 a0 (wrap64 (x3_1 + 1))) else (if (bt a0 x3_1) = 47 then (spec_l1Text.l0 k1 a0 (wrap64 (x3_1 + 1))) else (some false)))) = some r := by rw [if_neg (show ¬ (false = true) by decide)] at H; exact H
      clear H
      have H := H1
      clear H1
      replace H := be0_ H
      obtain ⟨t102, A80, H⟩ := H
      replace H : (if t102 = true then (spec_l1Text.l0 k1 a0 (wrap64 (x3_1 + 1))) else (if (bt a0 x3_1) = 47 then (spec_l1Text.l0 k1 a0 (wrap64 (x3_1 + 1))) else (some false))) = some r := H
      have A8 := mz A80
      clear A80
      by_cases c9 : t102 = true
      ·subst c9
       have H1 : (spec_l1Text.l0 k1 a0 (wrap64 (x3_1 + 1))) = some r := by rw [if_pos rfl] at H; exact H
       clear H
       have H := H1
       clear H1
       have H' := mz H
       clear H
       have p4 : 0 ≤ (x3_1 : Int) := of_decide_eq_true a29_
       have q4 : x3_1 < (a0.size : Int) := of_decide_eq_true a29_
       have hx4 := bt_at a0 x3_1
       replace p4 := eq_true p4
       replace q4 := eq_true q4
       go_wp2_with (first | ((with_reducible refine gate_callee (f := 134) rfl ?_); refine goesL_ (some 13) rfl rfl Try.func134 (by kernel_rfl) rfl #[.int .u8 (bt a0 x3_1)] rfl a11_ ?_; (with_reducible refine (spec_l1Open.calls (bt a0 x3_1) false _ A5.out).mono ?_); rintro e w' ⟨rfl, ⟨nd, rfl⟩⟩; refine ⟨_, rfl, ?_⟩; have p7 : 0 ≤ (x3_1 : Int) := of_decide_eq_true a29_; have q7 : x3_1 < (a0.size : Int) := of_decide_eq_true a29_; have hx7 := bt_at a0 x3_1; replace p7 := eq_true p7; replace q7 := eq_true q7) | (go_at_call 135; (with_reducible refine (spec_l1Plain.calls (bt a0 x3_1) true _ A8.out).mono ?_); rintro e w' ⟨rfl, ⟨nd, rfl⟩⟩))
       go_roundg k1
       case measure => have := HK1.out; omega
       case rel => exact ⟨(wrap64 (x3_1 + 1)), a30_, H', ⟨by have := HK1.out; omega⟩, by repeat (first | exact Drawn0.refl _ | apply Drawn0.step)⟩
      ·replace c9 := Bool.eq_false_iff.mpr c9
       subst c9
       have H1 : (if (bt a0 x3_1) = 47 then (spec_l1Text.l0 k1 a0 (wrap64 (x3_1 + 1))) else (some false)) = some r := by rw [if_neg (show ¬ (false = true) by decide)] at H; exact H
       clear H
       have H := H1
       clear H1
       by_cases c11 : (bt a0 x3_1) = 47
       ·rw [if_pos c11] at H
        have c11b0 : ((bt a0 x3_1) == 47) = true := beq_iff_eq.mpr c11
        have c11b1 : ((bt a0 x3_1) != 47) = false := bne_eq_false_iff_eq.mpr c11
        clear c11
        have H' := mz H
        clear H
        have p4 : 0 ≤ (x3_1 : Int) := of_decide_eq_true a29_
        have q4 : x3_1 < (a0.size : Int) := of_decide_eq_true a29_
        have hx4 := bt_at a0 x3_1
        replace p4 := eq_true p4
        replace q4 := eq_true q4
        go_wp2_with (first | ((with_reducible refine gate_callee (f := 134) rfl ?_); refine goesL_ (some 13) rfl rfl Try.func134 (by kernel_rfl) rfl #[.int .u8 (bt a0 x3_1)] rfl a11_ ?_; (with_reducible refine (spec_l1Open.calls (bt a0 x3_1) false _ A5.out).mono ?_); rintro e w' ⟨rfl, ⟨nd, rfl⟩⟩; refine ⟨_, rfl, ?_⟩; have p7 : 0 ≤ (x3_1 : Int) := of_decide_eq_true a29_; have q7 : x3_1 < (a0.size : Int) := of_decide_eq_true a29_; have hx7 := bt_at a0 x3_1; replace p7 := eq_true p7; replace q7 := eq_true q7) | (go_at_call 135; (with_reducible refine (spec_l1Plain.calls (bt a0 x3_1) false _ A8.out).mono ?_); rintro e w' ⟨rfl, ⟨nd, rfl⟩⟩; have p10 : 0 ≤ (x3_1 : Int) := of_decide_eq_true a29_; have q10 : x3_1 < (a0.size : Int) := of_decide_eq_true a29_; have hx10 := bt_at a0 x3_1; replace p10 := eq_true p10; replace q10 := eq_true q10))
        go_roundg k1
        case measure => have := HK1.out; omega
        case rel => exact ⟨(wrap64 (x3_1 + 1)), a30_, H', ⟨by have := HK1.out; omega⟩, by repeat (first | exact Drawn0.refl _ | apply Drawn0.step)⟩
       ·rw [if_neg c11] at H
        have c11b0 : ((bt a0 x3_1) == 47) = false := beq_eq_false_iff_ne.mpr c11
        have c11b1 : ((bt a0 x3_1) != 47) = true := bne_iff_ne.mpr c11
        obtain rfl := Option.some.inj H
        have p4 : 0 ≤ (x3_1 : Int) := of_decide_eq_true a29_
        have q4 : x3_1 < (a0.size : Int) := of_decide_eq_true a29_
        have hx4 := bt_at a0 x3_1
        replace p4 := eq_true p4
        replace q4 := eq_true q4
        go_wp2_with (first | ((with_reducible refine gate_callee (f := 134) rfl ?_); refine goesL_ (some 13) rfl rfl Try.func134 (by kernel_rfl) rfl #[.int .u8 (bt a0 x3_1)] rfl a11_ ?_; (with_reducible refine (spec_l1Open.calls (bt a0 x3_1) false _ A5.out).mono ?_); rintro e w' ⟨rfl, ⟨nd, rfl⟩⟩; refine ⟨_, rfl, ?_⟩; have p7 : 0 ≤ (x3_1 : Int) := of_decide_eq_true a29_; have q7 : x3_1 < (a0.size : Int) := of_decide_eq_true a29_; have hx7 := bt_at a0 x3_1; replace p7 := eq_true p7; replace q7 := eq_true q7) | (go_at_call 135; (with_reducible refine (spec_l1Plain.calls (bt a0 x3_1) false _ A8.out).mono ?_); rintro e w' ⟨rfl, ⟨nd, rfl⟩⟩; have p10 : 0 ≤ (x3_1 : Int) := of_decide_eq_true a29_; have q10 : x3_1 < (a0.size : Int) := of_decide_eq_true a29_; have hx10 := bt_at a0 x3_1; replace p10 := eq_true p10; replace q10 := eq_true q10))
        go_ret
        exact ⟨a30_, a28_⟩
    ·rw [if_neg c3] at H
     exact absurd H (by simp)
   ·rw [if_neg c2] at H
    have c2b0 : decide (x3_1 < (a0.size : Int)) = false := decide_eq_false c2
    clear c2
    obtain rfl := Option.some.inj H
    go_wp2
    go_ret
    exact ⟨a30_, a28_⟩
end
section
attribute [local go_sem] max2_int min2_int max_two min_two max_three min_three max_four min_four
def spec_GoodText.f (k : Nat) (a0 : ByteArray) : Option (Bool) := (spec_l1Text.f k a0).bind fun t101 => (if t101 = true then (some (decide ((a0.size : Int) ≤ 300))) else (some false))
set_option maxHeartbeats 8000000 in
set_option maxRecDepth 100000 in
theorem spec_GoodText.calls (k : Nat) (a0 : ByteArray) (r : Bool) (w : World) (h : spec_GoodText.f k a0 = some r) :
  Calls Try.prog 84 #[.string a0] w fun e w' => e = .returned (.bool r) ∧ Drawn0 w w' := by
 have H : ((spec_l1Text.f k a0).bind fun t101 => (if t101 = true then (some (decide ((a0.size : Int) ≤ 300))) else (some false))) = some r := h
 clear h
 replace H := be0_ H
 obtain ⟨t101, A20, H⟩ := H
 replace H : (if t101 = true then (some (decide ((a0.size : Int) ≤ 300))) else (some false)) = some r := H
 have A2 := mz A20
 clear A20
 by_cases c3 : t101 = true
 ·subst c3
  have H1 : (some (decide ((a0.size : Int) ≤ 300))) = some r := by rw [if_pos rfl] at H; exact H
  clear H
  have H := H1
  clear H1
  obtain rfl := Option.some.inj H
  go_enter Try.func84, Try.ntmps84
  go_wp2_with (first | ((with_reducible refine gate_callee (f := 120) rfl ?_); refine goesL_ (some 4) rfl rfl Try.func120 (by kernel_rfl) rfl #[.string a0] rfl a11_ ?_; (with_reducible refine (spec_l1Text.calls k a0 true _ A2.out).mono ?_); rintro e w' ⟨rfl, ⟨nd, rfl⟩⟩; refine ⟨_, rfl, ?_⟩))
  go_ret
  exact ⟨a30_, a28_⟩
 ·replace c3 := Bool.eq_false_iff.mpr c3
  subst c3
  have H1 : (some false) = some r := by rw [if_neg (show ¬ (false = true) by decide)] at H; exact H
  clear H
  have H := H1
  clear H1
  obtain rfl := Option.some.inj H
  go_enter Try.func84, Try.ntmps84
  go_wp2_with (first | ((with_reducible refine gate_callee (f := 120) rfl ?_); refine goesL_ (some 4) rfl rfl Try.func120 (by kernel_rfl) rfl #[.string a0] rfl a11_ ?_; (with_reducible refine (spec_l1Text.calls k a0 false _ A2.out).mono ?_); rintro e w' ⟨rfl, ⟨nd, rfl⟩⟩; refine ⟨_, rfl, ?_⟩))
  go_ret
  exact ⟨a30_, a28_⟩
end
section
attribute [local go_sem] max2_int min2_int max_two min_two max_three min_three max_four min_four
def impl_Part_isPart.f (k : Nat) (a0_0 : Int) (a0_1 : ByteArray) (a0_2 : ByteArray) : Option (Bool) := if a0_0 = 0 then (if a0_1.toList = ([] : List UInt8) then (if a0_2.toList = ([] : List UInt8) then (some false) else ((impl_GoodText.f k a0_2).bind fun t102 => (some t102))) else (if a0_2.toList = ([] : List UInt8) then ((impl_GoodText.f k a0_1).bind fun t103 => (some t103)) else (some false))) else (if a0_0 ≥ 1 then (if a0_0 ≤ 300 then (if a0_1.toList = ([] : List UInt8) then (some (a0_2.toList == ([] : List UInt8))) else (some false)) else (some false)) else (some false))
set_option maxHeartbeats 8000000 in
set_option maxRecDepth 100000 in
theorem impl_Part_isPart.calls (k : Nat) (a0_0 : Int) (a0_1 : ByteArray) (a0_2 : ByteArray) (r : Bool) (w : World) (h : impl_Part_isPart.f k a0_0 a0_1 a0_2 = some r) :
  Calls Try.prog 126 #[.agg #[.int .i64 a0_0, .string a0_1, .string a0_2]] w fun e w' => e = .returned (.bool r) ∧ Below w.heap.size w w' := by
 have hu86 := Try.underlying86
 have HB := mz (Below.refl w.heap.size w)
 have H : (if a0_0 = 0 then (if a0_1.toList = ([] : List UInt8) then (if a0_2.toList = ([] : List UInt8) then (some false) else ((impl_GoodText.f k a0_2).bind fun t102 => (some t102))) else (if a0_2.toList = ([] : List UInt8) then ((impl_GoodText.f k a0_1).bind fun t103 => (some t103)) else (some false))) else (if a0_0 ≥ 1 then (if a0_0 ≤ 300 then (if a0_1.toList = ([] : List UInt8) then (some (a0_2.toList == ([] : List UInt8))) else (some false)) else (some false)) else (some false))) = some r := h
 clear h
 by_cases c2 : a0_0 = 0
 ·rw [if_pos c2] at H
  have c2b0 : (a0_0 == 0) = true := beq_iff_eq.mpr c2
  have c2b1 : (a0_0 != 0) = false := bne_eq_false_iff_eq.mpr c2
  clear c2
  by_cases c3 : a0_1.toList = ([] : List UInt8)
  ·rw [if_pos c3] at H
   have c3b0 : (a0_1.toList == ([] : List UInt8)) = true := beq_iff_eq.mpr c3
   have c3b1 : (a0_1.toList != ([] : List UInt8)) = false := bne_eq_false_iff_eq.mpr c3
   clear c3
   by_cases c4 : a0_2.toList = ([] : List UInt8)
   ·rw [if_pos c4] at H
    have c4b0 : (a0_2.toList == ([] : List UInt8)) = true := beq_iff_eq.mpr c4
    have c4b1 : (a0_2.toList != ([] : List UInt8)) = false := bne_eq_false_iff_eq.mpr c4
    clear c4
    obtain rfl := Option.some.inj H
    go_enter Try.func126, Try.ntmps126
    go_wp2_with (first | ((with_reducible refine gate_dst (N := 1) rfl ?_); refine bz_ 1 #[.int .i64 a0_0, .string a0_1, .string a0_2] 86 ?_; intro gb101 hg w5 hbox hb; have n0_ := mz (bs0_ hb); have n1_ := mz (hbox); have n2_ := mz ((by rw [hg]; exact bz1_ : w.heap.size ≤ gb101)); have n3_ := mz ((by rw [hg]; exact bz1_ : w.heap.size ≤ gb101)); clear HB; have HB := n0_; have BK101 := n1_; have GW101 := n2_; have GE101 := n3_; clear n0_ n1_ n2_ n3_; clear hb hbox hg; have hcz6_0 := bk_ BK101.out 0 (.int .i64 a0_0); have hcz6_1 := bk_ BK101.out 1 (.string a0_1); have hcz6_2 := bk_ BK101.out 2 (.string a0_2); have hfz6_0 := blk_frozen BK101.out 0; have hfz6_1 := blk_frozen BK101.out 1; have hfz6_2 := blk_frozen BK101.out 2))
    go_ret
    exact ⟨a27_, a8_⟩
   ·rw [if_neg c4] at H
    have c4b0 : (a0_2.toList == ([] : List UInt8)) = false := beq_eq_false_iff_ne.mpr c4
    have c4b1 : (a0_2.toList != ([] : List UInt8)) = true := bne_iff_ne.mpr c4
    replace H := be0_ H
    obtain ⟨t102, A70, H⟩ := H
    replace H : (some t102) = some r := H
    have A7 := mz A70
    clear A70
    obtain rfl := Option.some.inj H
    go_enter Try.func126, Try.ntmps126
    go_wp2_with (first | ((with_reducible refine gate_dst (N := 1) rfl ?_); refine bz_ 1 #[.int .i64 a0_0, .string a0_1, .string a0_2] 86 ?_; intro gb101 hg w8 hbox hb; have n0_ := mz (bs0_ hb); have n1_ := mz (hbox); have n2_ := mz ((by rw [hg]; exact bz1_ : w.heap.size ≤ gb101)); have n3_ := mz ((by rw [hg]; exact bz1_ : w.heap.size ≤ gb101)); clear HB; have HB := n0_; have BK101 := n1_; have GW101 := n2_; have GE101 := n3_; clear n0_ n1_ n2_ n3_; clear hb hbox hg; have hcz9_0 := bk_ BK101.out 0 (.int .i64 a0_0); have hcz9_1 := bk_ BK101.out 1 (.string a0_1); have hcz9_2 := bk_ BK101.out 2 (.string a0_2); have hfz9_0 := blk_frozen BK101.out 0; have hfz9_1 := blk_frozen BK101.out 1; have hfz9_2 := blk_frozen BK101.out 2) | (go_at_call 102; (with_reducible refine (impl_GoodText.calls k a0_2 t102 _ A7.out).mono ?_); rintro e w' ⟨rfl, ⟨nd, rfl⟩⟩))
    go_ret
    exact ⟨a27_, a8_⟩
  ·rw [if_neg c3] at H
   have c3b0 : (a0_1.toList == ([] : List UInt8)) = false := beq_eq_false_iff_ne.mpr c3
   have c3b1 : (a0_1.toList != ([] : List UInt8)) = true := bne_iff_ne.mpr c3
   by_cases c10 : a0_2.toList = ([] : List UInt8)
   ·rw [if_pos c10] at H
    have c10b0 : (a0_2.toList == ([] : List UInt8)) = true := beq_iff_eq.mpr c10
    have c10b1 : (a0_2.toList != ([] : List UInt8)) = false := bne_eq_false_iff_eq.mpr c10
    clear c10
    replace H := be0_ H
    obtain ⟨t103, A110, H⟩ := H
    replace H : (some t103) = some r := H
    have A11 := mz A110
    clear A110
    obtain rfl := Option.some.inj H
    go_enter Try.func126, Try.ntmps126
    go_wp2_with (first | ((with_reducible refine gate_dst (N := 1) rfl ?_); refine bz_ 1 #[.int .i64 a0_0, .string a0_1, .string a0_2] 86 ?_; intro gb101 hg w12 hbox hb; have n0_ := mz (bs0_ hb); have n1_ := mz (hbox); have n2_ := mz ((by rw [hg]; exact bz1_ : w.heap.size ≤ gb101)); have n3_ := mz ((by rw [hg]; exact bz1_ : w.heap.size ≤ gb101)); clear HB; have HB := n0_; have BK101 := n1_; have GW101 := n2_; have GE101 := n3_; clear n0_ n1_ n2_ n3_; clear hb hbox hg; have hcz13_0 := bk_ BK101.out 0 (.int .i64 a0_0); have hcz13_1 := bk_ BK101.out 1 (.string a0_1); have hcz13_2 := bk_ BK101.out 2 (.string a0_2); have hfz13_0 := blk_frozen BK101.out 0; have hfz13_1 := blk_frozen BK101.out 1; have hfz13_2 := blk_frozen BK101.out 2) | (go_at_call 102; (with_reducible refine (impl_GoodText.calls k a0_1 t103 _ A11.out).mono ?_); rintro e w' ⟨rfl, ⟨nd, rfl⟩⟩))
    go_ret
    exact ⟨a27_, a8_⟩
   ·rw [if_neg c10] at H
    have c10b0 : (a0_2.toList == ([] : List UInt8)) = false := beq_eq_false_iff_ne.mpr c10
    have c10b1 : (a0_2.toList != ([] : List UInt8)) = true := bne_iff_ne.mpr c10
    obtain rfl := Option.some.inj H
    go_enter Try.func126, Try.ntmps126
    go_wp2_with (first | ((with_reducible refine gate_dst (N := 1) rfl ?_); refine bz_ 1 #[.int .i64 a0_0, .string a0_1, .string a0_2] 86 ?_; intro gb101 hg w14 hbox hb; have n0_ := mz (bs0_ hb); have n1_ := mz (hbox); have n2_ := mz ((by rw [hg]; exact bz1_ : w.heap.size ≤ gb101)); have n3_ := mz ((by rw [hg]; exact bz1_ : w.heap.size ≤ gb101)); clear HB; have HB := n0_; have BK101 := n1_; have GW101 := n2_; have GE101 := n3_; clear n0_ n1_ n2_ n3_; clear hb hbox hg; have hcz15_0 := bk_ BK101.out 0 (.int .i64 a0_0); have hcz15_1 := bk_ BK101.out 1 (.string a0_1); have hcz15_2 := bk_ BK101.out 2 (.string a0_2); have hfz15_0 := blk_frozen BK101.out 0; have hfz15_1 := blk_frozen BK101.out 1; have hfz15_2 := blk_frozen BK101.out 2))
    go_ret
    exact ⟨a27_, a8_⟩
 ·rw [if_neg c2] at H
  have c2b0 : (a0_0 == 0) = false := beq_eq_false_iff_ne.mpr c2
  have c2b1 : (a0_0 != 0) = true := bne_iff_ne.mpr c2
  by_cases c16 : a0_0 ≥ 1
  ·rw [if_pos c16] at H
   have c16b0 : decide (1 ≤ a0_0) = true := decide_eq_true c16
   clear c16
   by_cases c17 : a0_0 ≤ 300
   ·rw [if_pos c17] at H
    have c17b0 : decide (a0_0 ≤ 300) = true := decide_eq_true c17
    clear c17
    by_cases c18 : a0_1.toList = ([] : List UInt8)
    ·rw [if_pos c18] at H
     have c18b0 : (a0_1.toList == ([] : List UInt8)) = true := beq_iff_eq.mpr c18
     have c18b1 : (a0_1.toList != ([] : List UInt8)) = false := bne_eq_false_iff_eq.mpr c18
     clear c18
     obtain rfl := Option.some.inj H
     go_enter Try.func126, Try.ntmps126
     go_wp2_with (first | ((with_reducible refine gate_dst (N := 1) rfl ?_); refine bz_ 1 #[.int .i64 a0_0, .string a0_1, .string a0_2] 86 ?_; intro gb101 hg w19 hbox hb; have n0_ := mz (bs0_ hb); have n1_ := mz (hbox); have n2_ := mz ((by rw [hg]; exact bz1_ : w.heap.size ≤ gb101)); have n3_ := mz ((by rw [hg]; exact bz1_ : w.heap.size ≤ gb101)); clear HB; have HB := n0_; have BK101 := n1_; have GW101 := n2_; have GE101 := n3_; clear n0_ n1_ n2_ n3_; clear hb hbox hg; have hcz20_0 := bk_ BK101.out 0 (.int .i64 a0_0); have hcz20_1 := bk_ BK101.out 1 (.string a0_1); have hcz20_2 := bk_ BK101.out 2 (.string a0_2); have hfz20_0 := blk_frozen BK101.out 0; have hfz20_1 := blk_frozen BK101.out 1; have hfz20_2 := blk_frozen BK101.out 2))
     go_ret
     exact ⟨a27_, a8_⟩
    ·rw [if_neg c18] at H
     have c18b0 : (a0_1.toList == ([] : List UInt8)) = false := beq_eq_false_iff_ne.mpr c18
     have c18b1 : (a0_1.toList != ([] : List UInt8)) = true := bne_iff_ne.mpr c18
     obtain rfl := Option.some.inj H
     go_enter Try.func126, Try.ntmps126
     go_wp2_with (first | ((with_reducible refine gate_dst (N := 1) rfl ?_); refine bz_ 1 #[.int .i64 a0_0, .string a0_1, .string a0_2] 86 ?_; intro gb101 hg w21 hbox hb; have n0_ := mz (bs0_ hb); have n1_ := mz (hbox); have n2_ := mz ((by rw [hg]; exact bz1_ : w.heap.size ≤ gb101)); have n3_ := mz ((by rw [hg]; exact bz1_ : w.heap.size ≤ gb101)); clear HB; have HB := n0_; have BK101 := n1_; have GW101 := n2_; have GE101 := n3_; clear n0_ n1_ n2_ n3_; clear hb hbox hg; have hcz22_0 := bk_ BK101.out 0 (.int .i64 a0_0); have hcz22_1 := bk_ BK101.out 1 (.string a0_1); have hcz22_2 := bk_ BK101.out 2 (.string a0_2); have hfz22_0 := blk_frozen BK101.out 0; have hfz22_1 := blk_frozen BK101.out 1; have hfz22_2 := blk_frozen BK101.out 2))
     go_ret
     exact ⟨a27_, a8_⟩
   ·rw [if_neg c17] at H
    have c17b0 : decide (a0_0 ≤ 300) = false := decide_eq_false c17
    clear c17
    obtain rfl := Option.some.inj H
    go_enter Try.func126, Try.ntmps126
    go_wp2_with (first | ((with_reducible refine gate_dst (N := 1) rfl ?_); refine bz_ 1 #[.int .i64 a0_0, .string a0_1, .string a0_2] 86 ?_; intro gb101 hg w23 hbox hb; have n0_ := mz (bs0_ hb); have n1_ := mz (hbox); have n2_ := mz ((by rw [hg]; exact bz1_ : w.heap.size ≤ gb101)); have n3_ := mz ((by rw [hg]; exact bz1_ : w.heap.size ≤ gb101)); clear HB; have HB := n0_; have BK101 := n1_; have GW101 := n2_; have GE101 := n3_; clear n0_ n1_ n2_ n3_; clear hb hbox hg; have hcz24_0 := bk_ BK101.out 0 (.int .i64 a0_0); have hcz24_1 := bk_ BK101.out 1 (.string a0_1); have hcz24_2 := bk_ BK101.out 2 (.string a0_2); have hfz24_0 := blk_frozen BK101.out 0; have hfz24_1 := blk_frozen BK101.out 1; have hfz24_2 := blk_frozen BK101.out 2))
    go_ret
    exact ⟨a27_, a8_⟩
  ·rw [if_neg c16] at H
   have c16b0 : decide (1 ≤ a0_0) = false := decide_eq_false c16
   clear c16
   obtain rfl := Option.some.inj H
   go_enter Try.func126, Try.ntmps126
   go_wp2_with (first | ((with_reducible refine gate_dst (N := 1) rfl ?_); refine bz_ 1 #[.int .i64 a0_0, .string a0_1, .string a0_2] 86 ?_; intro gb101 hg w25 hbox hb; have n0_ := mz (bs0_ hb); have n1_ := mz (hbox); have n2_ := mz ((by rw [hg]; exact bz1_ : w.heap.size ≤ gb101)); have n3_ := mz ((by rw [hg]; exact bz1_ : w.heap.size ≤ gb101)); clear HB; have HB := n0_; have BK101 := n1_; have GW101 := n2_; have GE101 := n3_; clear n0_ n1_ n2_ n3_; clear hb hbox hg; have hcz26_0 := bk_ BK101.out 0 (.int .i64 a0_0); have hcz26_1 := bk_ BK101.out 1 (.string a0_1); have hcz26_2 := bk_ BK101.out 2 (.string a0_2); have hfz26_0 := blk_frozen BK101.out 0; have hfz26_1 := blk_frozen BK101.out 1; have hfz26_2 := blk_frozen BK101.out 2))
   go_ret
   exact ⟨a27_, a8_⟩
end
section
attribute [local go_sem] max2_int min2_int max_two min_two max_three min_three max_four min_four
def impl_GoodOp_1.f (k : Nat) (a0_0 : Int) (a0_1 : ByteArray) (a0_2 : ByteArray) : Option (Bool) := (impl_Part_isPart.f k a0_0 a0_1 a0_2).bind fun t102 => (some (!t102))
set_option maxHeartbeats 8000000 in
set_option maxRecDepth 100000 in
theorem impl_GoodOp_1.calls (k : Nat) (a0_0 : Int) (a0_1 : ByteArray) (a0_2 : ByteArray) (r : Bool) (w : World) (h : impl_GoodOp_1.f k a0_0 a0_1 a0_2 = some r) :
  Calls Try.prog 125 #[.agg #[.int .i64 a0_0, .string a0_1, .string a0_2]] w fun e w' => e = .returned (.bool r) ∧ Below w.heap.size w w' := by
 have hu86 := Try.underlying86
 have HB := mz (Below.refl w.heap.size w)
 have H : ((impl_Part_isPart.f k a0_0 a0_1 a0_2).bind fun t102 => (some (!t102))) = some r := h
 clear h
 replace H := be0_ H
 obtain ⟨t102, A20, H⟩ := H
 replace H : (some (!t102)) = some r := H
 have A2 := mz A20
 clear A20
 obtain rfl := Option.some.inj H
 go_enter Try.func125, Try.ntmps125
 go_wp2_with (first | ((with_reducible refine gate_dst (N := 1) rfl ?_); refine bz_ 1 #[.int .i64 a0_0, .string a0_1, .string a0_2] 86 ?_; intro gb101 hg w3 hbox hb; have n0_ := mz (bs0_ hb); have n1_ := mz (hbox); have n2_ := mz ((by rw [hg]; exact bz1_ : w.heap.size ≤ gb101)); have n3_ := mz ((by rw [hg]; exact bz1_ : w.heap.size ≤ gb101)); clear HB; have HB := n0_; have BK101 := n1_; have GW101 := n2_; have GE101 := n3_; clear n0_ n1_ n2_ n3_; clear hb hbox hg; have hcz4_0 := bk_ BK101.out 0 (.int .i64 a0_0); have hcz4_1 := bk_ BK101.out 1 (.string a0_1); have hcz4_2 := bk_ BK101.out 2 (.string a0_2); have hfz4_0 := blk_frozen BK101.out 0; have hfz4_1 := blk_frozen BK101.out 1; have hfz4_2 := blk_frozen BK101.out 2) | ((with_reducible refine gate_callee (f := 126) rfl ?_); refine goesL_ (some 4) rfl rfl Try.func126 (by kernel_rfl) rfl #[.agg #[.int .i64 a0_0, .string a0_1, .string a0_2]] rfl a11_ ?_; (with_reducible refine (impl_Part_isPart.calls k a0_0 a0_1 a0_2 t102 _ A2.out).mono ?_); rintro e w5 ⟨rfl, hb⟩; refine ⟨_, rfl, ?_⟩; have n0_ := mz (blk_below (g := gb101) (o := .cells #[.int .i64 a0_0, .string a0_1, .string a0_2] 86 (0, 0)) a14_ hb); have n1_ := mz (bs2_ hb); clear BK101; clear HB; have BK101 := n0_; have HB := n1_; clear n0_ n1_; (try clear hb); (try clear hb2); (try clear hk); (try clear hi)))
 go_ret
 exact ⟨a27_, a8_⟩
end
section
attribute [local go_sem] max2_int min2_int max_two min_two max_three min_three max_four min_four
def spec_l1In.f (a0 : Int) (a1 : Int) (a2 : Int) : Option (Bool) := if a0 ≥ a1 then (some (decide (a0 ≤ a2))) else (some false)
set_option maxHeartbeats 8000000 in
set_option maxRecDepth 100000 in
theorem spec_l1In.calls (a0 : Int) (a1 : Int) (a2 : Int) (r : Bool) (w : World) (h : spec_l1In.f a0 a1 a2 = some r) :
  Calls Try.prog 82 #[.int .i64 a0, .int .i64 a1, .int .i64 a2] w fun e w' => e = .returned (.bool r) ∧ Drawn0 w w' := by
 have H : (if a0 ≥ a1 then (some (decide (a0 ≤ a2))) else (some false)) = some r := h
 clear h
 by_cases c4 : a0 ≥ a1
 ·rw [if_pos c4] at H
  have c4b0 : decide (a1 ≤ a0) = true := decide_eq_true c4
  clear c4
  obtain rfl := Option.some.inj H
  go_enter Try.func82, Try.ntmps82
  go_wp2
  go_ret
  exact ⟨a30_, a28_⟩
 ·rw [if_neg c4] at H
  have c4b0 : decide (a1 ≤ a0) = false := decide_eq_false c4
  clear c4
  obtain rfl := Option.some.inj H
  go_enter Try.func82, Try.ntmps82
  go_wp2
  go_ret
  exact ⟨a30_, a28_⟩
end
section
attribute [local go_sem] max2_int min2_int max_two min_two max_three min_three max_four min_four
def spec_l3Part.f (k : Nat) (a0_0 : Int) (a0_1 : ByteArray) (a0_2 : ByteArray) : Option (Bool) := if a0_0 = 0 then (if a0_1.toList = ([] : List UInt8) then (if a0_2.toList = ([] : List UInt8) then (some false) else ((spec_GoodText.f k a0_2).bind fun t102 => (some t102))) else (if a0_2.toList = ([] : List UInt8) then ((spec_GoodText.f k a0_1).bind fun t103 => (some t103)) else (some false))) else ((spec_l1In.f a0_0 1 300).bind fun t104 => (if t104 = true then (if a0_1.toList = ([] : List UInt8) then (some (a0_2.toList == ([] : List UInt8))) else (some false)) else (some false)))
set_option maxHeartbeats 8000000 in
set_option maxRecDepth 100000 in
theorem spec_l3Part.calls (k : Nat) (a0_0 : Int) (a0_1 : ByteArray) (a0_2 : ByteArray) (r : Bool) (w : World) (h : spec_l3Part.f k a0_0 a0_1 a0_2 = some r) :
  Calls Try.prog 97 #[.agg #[.int .i64 a0_0, .string a0_1, .string a0_2]] w fun e w' => e = .returned (.bool r) ∧ Below w.heap.size w w' := by
 have hu86 := Try.underlying86
 have HB := mz (Below.refl w.heap.size w)
 have H : (if a0_0 = 0 then (if a0_1.toList = ([] : List UInt8) then (if a0_2.toList = ([] : List UInt8) then (some false) else ((spec_GoodText.f k a0_2).bind fun t102 => (some t102))) else (if a0_2.toList = ([] : List UInt8) then ((spec_GoodText.f k a0_1).bind fun t103 => (some t103)) else (some false))) else ((spec_l1In.f a0_0 1 300).bind fun t104 => (if t104 = true then (if a0_1.toList = ([] : List UInt8) then (some (a0_2.toList == ([] : List UInt8))) else (some false)) else (some false)))) = some r := h
 clear h
 by_cases c2 : a0_0 = 0
 ·rw [if_pos c2] at H
  have c2b0 : (a0_0 == 0) = true := beq_iff_eq.mpr c2
  have c2b1 : (a0_0 != 0) = false := bne_eq_false_iff_eq.mpr c2
  clear c2
  by_cases c3 : a0_1.toList = ([] : List UInt8)
  ·rw [if_pos c3] at H
   have c3b0 : (a0_1.toList == ([] : List UInt8)) = true := beq_iff_eq.mpr c3
   have c3b1 : (a0_1.toList != ([] : List UInt8)) = false := bne_eq_false_iff_eq.mpr c3
   clear c3
   by_cases c4 : a0_2.toList = ([] : List UInt8)
   ·rw [if_pos c4] at H
    have c4b0 : (a0_2.toList == ([] : List UInt8)) = true := beq_iff_eq.mpr c4
    have c4b1 : (a0_2.toList != ([] : List UInt8)) = false := bne_eq_false_iff_eq.mpr c4
    clear c4
    obtain rfl := Option.some.inj H
    go_enter Try.func97, Try.ntmps97
    go_wp2_with (first | ((with_reducible refine gate_dst (N := 1) rfl ?_); refine bz_ 1 #[.int .i64 a0_0, .string a0_1, .string a0_2] 86 ?_; intro gb101 hg w5 hbox hb; have n0_ := mz (bs0_ hb); have n1_ := mz (hbox); have n2_ := mz ((by rw [hg]; exact bz1_ : w.heap.size ≤ gb101)); have n3_ := mz ((by rw [hg]; exact bz1_ : w.heap.size ≤ gb101)); clear HB; have HB := n0_; have BK101 := n1_; have GW101 := n2_; have GE101 := n3_; clear n0_ n1_ n2_ n3_; clear hb hbox hg; have hcz6_0 := bk_ BK101.out 0 (.int .i64 a0_0); have hcz6_1 := bk_ BK101.out 1 (.string a0_1); have hcz6_2 := bk_ BK101.out 2 (.string a0_2); have hfz6_0 := blk_frozen BK101.out 0; have hfz6_1 := blk_frozen BK101.out 1; have hfz6_2 := blk_frozen BK101.out 2))
    go_ret
    exact ⟨a27_, a8_⟩
   ·rw [if_neg c4] at H
    have c4b0 : (a0_2.toList == ([] : List UInt8)) = false := beq_eq_false_iff_ne.mpr c4
    have c4b1 : (a0_2.toList != ([] : List UInt8)) = true := bne_iff_ne.mpr c4
    replace H := be0_ H
    obtain ⟨t102, A70, H⟩ := H
    replace H : (some t102) = some r := H
    have A7 := mz A70
    clear A70
    obtain rfl := Option.some.inj H
    go_enter Try.func97, Try.ntmps97
    go_wp2_with (first | ((with_reducible refine gate_dst (N := 1) rfl ?_); refine bz_ 1 #[.int .i64 a0_0, .string a0_1, .string a0_2] 86 ?_; intro gb101 hg w8 hbox hb; have n0_ := mz (bs0_ hb); have n1_ := mz (hbox); have n2_ := mz ((by rw [hg]; exact bz1_ : w.heap.size ≤ gb101)); have n3_ := mz ((by rw [hg]; exact bz1_ : w.heap.size ≤ gb101)); clear HB; have HB := n0_; have BK101 := n1_; have GW101 := n2_; have GE101 := n3_; clear n0_ n1_ n2_ n3_; clear hb hbox hg; have hcz9_0 := bk_ BK101.out 0 (.int .i64 a0_0); have hcz9_1 := bk_ BK101.out 1 (.string a0_1); have hcz9_2 := bk_ BK101.out 2 (.string a0_2); have hfz9_0 := blk_frozen BK101.out 0; have hfz9_1 := blk_frozen BK101.out 1; have hfz9_2 := blk_frozen BK101.out 2) | (go_at_call 84; (with_reducible refine (spec_GoodText.calls k a0_2 t102 _ A7.out).mono ?_); rintro e w' ⟨rfl, ⟨nd, rfl⟩⟩))
    go_ret
    exact ⟨a27_, a8_⟩
  ·rw [if_neg c3] at H
   have c3b0 : (a0_1.toList == ([] : List UInt8)) = false := beq_eq_false_iff_ne.mpr c3
   have c3b1 : (a0_1.toList != ([] : List UInt8)) = true := bne_iff_ne.mpr c3
   by_cases c10 : a0_2.toList = ([] : List UInt8)
   ·rw [if_pos c10] at H
    have c10b0 : (a0_2.toList == ([] : List UInt8)) = true := beq_iff_eq.mpr c10
    have c10b1 : (a0_2.toList != ([] : List UInt8)) = false := bne_eq_false_iff_eq.mpr c10
    clear c10
    replace H := be0_ H
    obtain ⟨t103, A110, H⟩ := H
    replace H : (some t103) = some r := H
    have A11 := mz A110
    clear A110
    obtain rfl := Option.some.inj H
    go_enter Try.func97, Try.ntmps97
    go_wp2_with (first | ((with_reducible refine gate_dst (N := 1) rfl ?_); refine bz_ 1 #[.int .i64 a0_0, .string a0_1, .string a0_2] 86 ?_; intro gb101 hg w12 hbox hb; have n0_ := mz (bs0_ hb); have n1_ := mz (hbox); have n2_ := mz ((by rw [hg]; exact bz1_ : w.heap.size ≤ gb101)); have n3_ := mz ((by rw [hg]; exact bz1_ : w.heap.size ≤ gb101)); clear HB; have HB := n0_; have BK101 := n1_; have GW101 := n2_; have GE101 := n3_; clear n0_ n1_ n2_ n3_; clear hb hbox hg; have hcz13_0 := bk_ BK101.out 0 (.int .i64 a0_0); have hcz13_1 := bk_ BK101.out 1 (.string a0_1); have hcz13_2 := bk_ BK101.out 2 (.string a0_2); have hfz13_0 := blk_frozen BK101.out 0; have hfz13_1 := blk_frozen BK101.out 1; have hfz13_2 := blk_frozen BK101.out 2) | (go_at_call 84; (with_reducible refine (spec_GoodText.calls k a0_1 t103 _ A11.out).mono ?_); rintro e w' ⟨rfl, ⟨nd, rfl⟩⟩))
    go_ret
    exact ⟨a27_, a8_⟩
   ·rw [if_neg c10] at H
    have c10b0 : (a0_2.toList == ([] : List UInt8)) = false := beq_eq_false_iff_ne.mpr c10
    have c10b1 : (a0_2.toList != ([] : List UInt8)) = true := bne_iff_ne.mpr c10
    obtain rfl := Option.some.inj H
    go_enter Try.func97, Try.ntmps97
    go_wp2_with (first | ((with_reducible refine gate_dst (N := 1) rfl ?_); refine bz_ 1 #[.int .i64 a0_0, .string a0_1, .string a0_2] 86 ?_; intro gb101 hg w14 hbox hb; have n0_ := mz (bs0_ hb); have n1_ := mz (hbox); have n2_ := mz ((by rw [hg]; exact bz1_ : w.heap.size ≤ gb101)); have n3_ := mz ((by rw [hg]; exact bz1_ : w.heap.size ≤ gb101)); clear HB; have HB := n0_; have BK101 := n1_; have GW101 := n2_; have GE101 := n3_; clear n0_ n1_ n2_ n3_; clear hb hbox hg; have hcz15_0 := bk_ BK101.out 0 (.int .i64 a0_0); have hcz15_1 := bk_ BK101.out 1 (.string a0_1); have hcz15_2 := bk_ BK101.out 2 (.string a0_2); have hfz15_0 := blk_frozen BK101.out 0; have hfz15_1 := blk_frozen BK101.out 1; have hfz15_2 := blk_frozen BK101.out 2))
    go_ret
    exact ⟨a27_, a8_⟩
 ·rw [if_neg c2] at H
  have c2b0 : (a0_0 == 0) = false := beq_eq_false_iff_ne.mpr c2
  have c2b1 : (a0_0 != 0) = true := bne_iff_ne.mpr c2
  replace H := be0_ H
  obtain ⟨t104, A160, H⟩ := H
  replace H : (if t104 = true then (if a0_1.toList = ([] : List UInt8) then (some (a0_2.toList == ([] : List UInt8))) else (some false)) else (some false)) = some r := H
  have A16 := mz A160
  clear A160
  by_cases c17 : t104 = true
  ·subst c17
   have H1 : (if a0_1.toList = ([] : List UInt8) then (some (a0_2.toList == ([] : List UInt8))) else (some false)) = some r := by rw [if_pos rfl] at H; exact H
   clear H
   have H := H1
   clear H1
   by_cases c18 : a0_1.toList = ([] : List UInt8)
   ·rw [if_pos c18] at H
    have c18b0 : (a0_1.toList == ([] : List UInt8)) = true := beq_iff_eq.mpr c18
    have c18b1 : (a0_1.toList != ([] : List UInt8)) = false := bne_eq_false_iff_eq.mpr c18
    clear c18
    obtain rfl := Option.some.inj H
    go_enter Try.func97, Try.ntmps97
    go_wp2_with (first | ((with_reducible refine gate_dst (N := 1) rfl ?_); refine bz_ 1 #[.int .i64 a0_0, .string a0_1, .string a0_2] 86 ?_; intro gb101 hg w19 hbox hb; have n0_ := mz (bs0_ hb); have n1_ := mz (hbox); have n2_ := mz ((by rw [hg]; exact bz1_ : w.heap.size ≤ gb101)); have n3_ := mz ((by rw [hg]; exact bz1_ : w.heap.size ≤ gb101)); clear HB; have HB := n0_; have BK101 := n1_; have GW101 := n2_; have GE101 := n3_; clear n0_ n1_ n2_ n3_; clear hb hbox hg; have hcz20_0 := bk_ BK101.out 0 (.int .i64 a0_0); have hcz20_1 := bk_ BK101.out 1 (.string a0_1); have hcz20_2 := bk_ BK101.out 2 (.string a0_2); have hfz20_0 := blk_frozen BK101.out 0; have hfz20_1 := blk_frozen BK101.out 1; have hfz20_2 := blk_frozen BK101.out 2) | ((with_reducible refine gate_callee (f := 82) rfl ?_); refine goesL_ (some 9) rfl rfl Try.func82 (by kernel_rfl) rfl #[.int .i64 a0_0, .int .i64 1, .int .i64 300] rfl a11_ ?_; (with_reducible refine (spec_l1In.calls a0_0 1 300 true _ A16.out).mono ?_); rintro e w' ⟨rfl, ⟨nd, rfl⟩⟩; refine ⟨_, rfl, ?_⟩))
    go_ret
    exact ⟨a27_, a8_⟩
   ·rw [if_neg c18] at H
    have c18b0 : (a0_1.toList == ([] : List UInt8)) = false := beq_eq_false_iff_ne.mpr c18
    have c18b1 : (a0_1.toList != ([] : List UInt8)) = true := bne_iff_ne.mpr c18
    obtain rfl := Option.some.inj H
    go_enter Try.func97, Try.ntmps97
    go_wp2_with (first | ((with_reducible refine gate_dst (N := 1) rfl ?_); refine bz_ 1 #[.int .i64 a0_0, .string a0_1, .string a0_2] 86 ?_; intro gb101 hg w21 hbox hb; have n0_ := mz (bs0_ hb); have n1_ := mz (hbox); have n2_ := mz ((by rw [hg]; exact bz1_ : w.heap.size ≤ gb101)); have n3_ := mz ((by rw [hg]; exact bz1_ : w.heap.size ≤ gb101)); clear HB; have HB := n0_; have BK101 := n1_; have GW101 := n2_; have GE101 := n3_; clear n0_ n1_ n2_ n3_; clear hb hbox hg; have hcz22_0 := bk_ BK101.out 0 (.int .i64 a0_0); have hcz22_1 := bk_ BK101.out 1 (.string a0_1); have hcz22_2 := bk_ BK101.out 2 (.string a0_2); have hfz22_0 := blk_frozen BK101.out 0; have hfz22_1 := blk_frozen BK101.out 1; have hfz22_2 := blk_frozen BK101.out 2) | ((with_reducible refine gate_callee (f := 82) rfl ?_); refine goesL_ (some 9) rfl rfl Try.func82 (by kernel_rfl) rfl #[.int .i64 a0_0, .int .i64 1, .int .i64 300] rfl a11_ ?_; (with_reducible refine (spec_l1In.calls a0_0 1 300 true _ A16.out).mono ?_); rintro e w' ⟨rfl, ⟨nd, rfl⟩⟩; refine ⟨_, rfl, ?_⟩))
    go_ret
    exact ⟨a27_, a8_⟩
  ·replace c17 := Bool.eq_false_iff.mpr c17
   subst c17
   have H1 : (some false) = some r := by rw [if_neg (show ¬ (false = true) by decide)] at H; exact H
   clear H
   have H := H1
   clear H1
   obtain rfl := Option.some.inj H
   go_enter Try.func97, Try.ntmps97
   go_wp2_with (first | ((with_reducible refine gate_dst (N := 1) rfl ?_); refine bz_ 1 #[.int .i64 a0_0, .string a0_1, .string a0_2] 86 ?_; intro gb101 hg w23 hbox hb; have n0_ := mz (bs0_ hb); have n1_ := mz (hbox); have n2_ := mz ((by rw [hg]; exact bz1_ : w.heap.size ≤ gb101)); have n3_ := mz ((by rw [hg]; exact bz1_ : w.heap.size ≤ gb101)); clear HB; have HB := n0_; have BK101 := n1_; have GW101 := n2_; have GE101 := n3_; clear n0_ n1_ n2_ n3_; clear hb hbox hg; have hcz24_0 := bk_ BK101.out 0 (.int .i64 a0_0); have hcz24_1 := bk_ BK101.out 1 (.string a0_1); have hcz24_2 := bk_ BK101.out 2 (.string a0_2); have hfz24_0 := blk_frozen BK101.out 0; have hfz24_1 := blk_frozen BK101.out 1; have hfz24_2 := blk_frozen BK101.out 2) | ((with_reducible refine gate_callee (f := 82) rfl ?_); refine goesL_ (some 9) rfl rfl Try.func82 (by kernel_rfl) rfl #[.int .i64 a0_0, .int .i64 1, .int .i64 300] rfl a11_ ?_; (with_reducible refine (spec_l1In.calls a0_0 1 300 false _ A16.out).mono ?_); rintro e w' ⟨rfl, ⟨nd, rfl⟩⟩; refine ⟨_, rfl, ?_⟩))
   go_ret
   exact ⟨a27_, a8_⟩
end
def nameB (c : Int) : Bool := decide (65 ≤ c) && decide (c ≤ 70)
def plainB (c : Int) : Bool := (decide (97 ≤ c) && decide (c ≤ 122)) || (decide (48 ≤ c) && decide (c ≤ 57)) || decide (c = 32) || decide (c = 46) || decide (c = 44)
theorem impl_isPlain_val (c : Int) : impl_isPlain.f c = some (plainB c) := by
 unfold impl_isPlain.f plainB
 repeat' split
 all_goals simp only [Option.some.injEq]
 all_goals (first | (simp; omega) | (rw [Bool.eq_iff_iff]; simp; omega) | (rw [eq_comm]; simp; omega))
theorem spec_l1Plain_val (c : Int) : spec_l1Plain.f c = some (plainB c) := by
 unfold spec_l1Plain.f plainB
 repeat' split
 all_goals simp only [Option.some.injEq]
 all_goals (first | (simp; omega) | (rw [Bool.eq_iff_iff]; simp; omega) | (rw [eq_comm]; simp; omega))
theorem impl_isName_val (c : Int) : impl_isName.f c = some (nameB c) := by
 unfold impl_isName.f nameB
 by_cases h : c ≥ 65
 ·rw [if_pos h, decide_eq_true (show 65 ≤ c from h)]; simp
 ·rw [if_neg h, decide_eq_false (show ¬ 65 ≤ c from h)]; simp
theorem spec_l1Open_val (c : Int) : spec_l1Open.f c = some (nameB c) := by
 unfold spec_l1Open.f nameB
 by_cases h : c ≥ 65
 ·rw [if_pos h, decide_eq_true (show 65 ≤ c from h)]; simp
 ·rw [if_neg h, decide_eq_false (show ¬ 65 ≤ c from h)]; simp
def byteB (c : Int) : Bool := nameB c || plainB c || decide (c = 47)
def bytesB (s : ByteArray) : Bool := s.data.toList.all fun c => byteB (c.toNat : Int)
def textB (s : ByteArray) : Bool := bytesB s && decide (s.size ≤ 300)
theorem bt_get (s : ByteArray) (i : Nat) (h : i < s.data.toList.length) : bt s (i : Int) = ((s.data.toList[i]).toNat : Int) := by
 have h' : i < s.size := by simpa using h
 have := bt_at s (i : Int) (by simpa using h')
 rw [← this]
 simp
 rfl

theorem implText_loop (s : ByteArray) (hs : s.size ≤ 9223372036854775807) (d : Nat) : ∀ i : Nat, i + d = s.size → Ev (fun k => impl_GoodText.l0 k s (s.size : Int) (i : Int)) (((s.data.toList.drop i).all fun c => byteB (c.toNat : Int)) && decide (s.size ≤ 300)) := by
 have hlen : s.data.toList.length = s.size := by simp
 induction d with
 | zero =>
  intro i h
  refine Ev.succ ?_
  simp only [impl_GoodText.l0, if_neg (show ¬ ((i : Int) < (s.size : Int)) by omega)]
  rw [List.drop_eq_nil_of_le (by omega)]
  refine ev_eq (Ev.now _) ?_
  simp only [List.all_nil, Bool.true_and]
  rw [Bool.eq_iff_iff]; simp; omega
 | succ d ih =>
  intro i h
  have e : s.data.toList.drop i = s.data.toList[i] :: s.data.toList.drop (i + 1) := List.drop_eq_getElem_cons (by omega)
  have hb := bt_get s i (by omega)
  refine Ev.succ ?_
  simp only [impl_GoodText.l0, if_pos (show ((i : Int) < (s.size : Int)) by omega), if_pos (show (0 : Int) ≤ i by omega), impl_isName_val, impl_isPlain_val, Option.bind_some, w64 (show -9223372036854775808 ≤ (i : Int) + 1 by omega) (by omega), hb]
  rw [e, List.all_cons]
  generalize ((s.data.toList[i]).toNat : Int) = c
  have hi := ih (i + 1) (by omega)
  unfold byteB
  cases h1 : nameB c with
  | true => simp only [if_true, Bool.true_or, Bool.true_and]; exact hi
  | false =>
   simp only [Bool.false_eq_true, if_false]
   cases h2 : plainB c with
   | true => simp only [if_true, Bool.true_or, Bool.or_true, Bool.true_and]; exact hi
   | false =>
    simp only [Bool.false_eq_true, if_false]
    by_cases h3 : c = 47
    ·simp only [if_pos h3, decide_eq_true h3, Bool.or_true, Bool.true_and]; exact hi
    ·simp only [if_neg h3]
     refine ev_eq (Ev.now _) ?_
     rw [decide_eq_false h3]; simp
theorem implText_ev (s : ByteArray) (hs : s.size ≤ maxLen) : Ev (fun k => impl_GoodText.f k s) (textB s) := by
 have := implText_loop s (by simpa [maxLen] using hs) s.size 0 (by omega)
 simpa [impl_GoodText.f, textB, bytesB] using this

theorem specText_loop (s : ByteArray) (hs : s.size ≤ 9223372036854775807) (d : Nat) : ∀ i : Nat, i + d = s.size → Ev (fun k => spec_l1Text.l0 k s (i : Int)) ((s.data.toList.drop i).all fun c => byteB (c.toNat : Int)) := by
 have hlen : s.data.toList.length = s.size := by simp
 induction d with
 | zero =>
  intro i h
  refine Ev.succ ?_
  simp only [spec_l1Text.l0, if_neg (show ¬ ((i : Int) < (s.size : Int)) by omega)]
  rw [List.drop_eq_nil_of_le (by omega)]
  exact Ev.now _
 | succ d ih =>
  intro i h
  have e : s.data.toList.drop i = s.data.toList[i] :: s.data.toList.drop (i + 1) := List.drop_eq_getElem_cons (by omega)
  have hb := bt_get s i (by omega)
  refine Ev.succ ?_
  simp only [spec_l1Text.l0, if_pos (show ((i : Int) < (s.size : Int)) by omega), if_pos (show (0 : Int) ≤ i by omega), spec_l1Open_val, spec_l1Plain_val, Option.bind_some, w64 (show -9223372036854775808 ≤ (i : Int) + 1 by omega) (by omega), hb]
  rw [e, List.all_cons]
  generalize ((s.data.toList[i]).toNat : Int) = c
  have hi := ih (i + 1) (by omega)
  unfold byteB
  cases h1 : nameB c with
  | true => simp only [if_true, Bool.true_or, Bool.true_and]; exact hi
  | false =>
   simp only [Bool.false_eq_true, if_false]
   cases h2 : plainB c with
   | true => simp only [if_true, Bool.true_or, Bool.or_true, Bool.true_and]; exact hi
   | false =>
    simp only [Bool.false_eq_true, if_false]
    by_cases h3 : c = 47
    ·simp only [if_pos h3, decide_eq_true h3, Bool.or_true, Bool.true_and]; exact hi
    ·simp only [if_neg h3]
     refine ev_eq (Ev.now _) ?_
     rw [decide_eq_false h3]; simp
theorem specBytes_ev (s : ByteArray) (hs : s.size ≤ maxLen) : Ev (fun k => spec_l1Text.f k s) (bytesB s) := by
 have := specText_loop s (by simpa [maxLen] using hs) s.size 0 (by omega)
 simpa [spec_l1Text.f, bytesB] using this
theorem specText_ev (s : ByteArray) (hs : s.size ≤ maxLen) : Ev (fun k => spec_GoodText.f k s) (textB s) := by
 unfold spec_GoodText.f textB
 refine Ev.bind (specBytes_ev s hs) ?_
 cases h : bytesB s with
 | true =>
  simp only [if_true, Bool.true_and]
  refine ev_eq (Ev.now _) ?_
  rw [Bool.eq_iff_iff]; simp; omega
 | false => simp only [Bool.false_eq_true, if_false, Bool.false_and]; exact Ev.now _
theorem toList_nil (s : ByteArray) : (s.toList = ([] : List UInt8)) ↔ s.size = 0 := by
 rw [ByteArray.toList_eq]
 constructor
 ·intro h
  have := congrArg List.length h
  simpa using this
 ·intro h
  exact List.eq_nil_of_length_eq_zero (by simpa using h)
abbrev Part := S86
def partB (p : Part) : Bool :=
 if p.f0 = 0 then
  if p.f1.size = 0 then (if p.f2.size = 0 then false else textB p.f2)
  else (if p.f2.size = 0 then textB p.f1 else false)
 else decide (1 ≤ p.f0) && decide (p.f0 ≤ 300) && decide (p.f1.size = 0) && decide (p.f2.size = 0)
theorem beq_nil (s : ByteArray) : (s.toList == ([] : List UInt8)) = decide (s.size = 0) := by
 rw [Bool.eq_iff_iff]; simp [toList_nil]
theorem isPart_ev (p : Part) (h1 : p.f1.size ≤ maxLen) (h2 : p.f2.size ≤ maxLen) : Ev (fun k => impl_Part_isPart.f k p.f0 p.f1 p.f2) (partB p) := by
 unfold impl_Part_isPart.f partB
 by_cases a : p.f0 = 0
 ·simp only [if_pos a]
  by_cases b : p.f1.size = 0
  ·simp only [toList_nil, if_pos b]
   by_cases c : p.f2.size = 0
   ·simp only [if_pos c]; exact Ev.now _
   ·simp only [if_neg c]; exact Ev.bind (implText_ev p.f2 h2) (Ev.now _)
  ·simp only [toList_nil, if_neg b]
   by_cases c : p.f2.size = 0
   ·simp only [if_pos c]; exact Ev.bind (implText_ev p.f1 h1) (Ev.now _)
   ·simp only [if_neg c]; exact Ev.now _
 ·simp only [if_neg a]
  by_cases b : p.f0 ≥ 1
  ·simp only [if_pos b, decide_eq_true (show 1 ≤ p.f0 from b)]
   by_cases c : p.f0 ≤ 300
   ·simp only [if_pos c, decide_eq_true c, toList_nil, beq_nil]
    by_cases d : p.f1.size = 0
    ·simp only [if_pos d, decide_eq_true d]; exact ev_eq (Ev.now _) (by simp)
    ·simp only [if_neg d, decide_eq_false d]; exact ev_eq (Ev.now _) (by simp)
   ·simp only [if_neg c, decide_eq_false c]; exact ev_eq (Ev.now _) (by simp)
  ·simp only [if_neg b, decide_eq_false (show ¬ 1 ≤ p.f0 from b)]; exact ev_eq (Ev.now _) (by simp)
theorem specPart_ev (p : Part) (h1 : p.f1.size ≤ maxLen) (h2 : p.f2.size ≤ maxLen) : Ev (fun k => spec_l3Part.f k p.f0 p.f1 p.f2) (partB p) := by
 unfold spec_l3Part.f partB spec_l1In.f
 by_cases a : p.f0 = 0
 ·simp only [if_pos a]
  by_cases b : p.f1.size = 0
  ·simp only [toList_nil, if_pos b]
   by_cases c : p.f2.size = 0
   ·simp only [if_pos c]; exact Ev.now _
   ·simp only [if_neg c]; exact Ev.bind (specText_ev p.f2 h2) (Ev.now _)
  ·simp only [toList_nil, if_neg b]
   by_cases c : p.f2.size = 0
   ·simp only [if_pos c]; exact Ev.bind (specText_ev p.f1 h1) (Ev.now _)
   ·simp only [if_neg c]; exact Ev.now _
 ·simp only [if_neg a]
  by_cases b : p.f0 ≥ 1
  ·simp only [if_pos b, decide_eq_true (show 1 ≤ p.f0 from b), Option.bind_some]
   by_cases c : p.f0 ≤ 300
   ·simp only [decide_eq_true c, if_true, toList_nil, beq_nil]
    by_cases d : p.f1.size = 0
    ·simp only [if_pos d, decide_eq_true d]; exact ev_eq (Ev.now _) (by simp)
    ·simp only [if_neg d, decide_eq_false d]; exact ev_eq (Ev.now _) (by simp)
   ·simp only [decide_eq_false c, Bool.false_eq_true, if_false]; exact ev_eq (Ev.now _) (by simp)
  ·simp only [if_neg b, decide_eq_false (show ¬ 1 ≤ p.f0 from b), Option.bind_some, Bool.false_eq_true, if_false]; exact ev_eq (Ev.now _) (by simp)

def PredPart (g : Nat) (lb : Array Value) (p : Part → Bool) (l : List Part) (w : World) : Prop :=
 ∀ (W : World) (x : Part), x ∈ l → Below w.heap.size w W → Calls Try.prog g (#[.agg #[.int .i64 x.f0, .string x.f1, .string x.f2]] ++ lb) W fun e w' => e = .returned (.bool (p x)) ∧ Below w.heap.size w w'
def FoundPart (p : Part → Bool) (l : List Part) (e : Ending) : Prop := ∃ z : Int, e = .returned (.int .i64 z) ∧ (0 ≤ z ↔ l.any p = true)
theorem FoundPart.mk {p : Part → Bool} {l : List Part} {e : Ending} (z : Int) (h : e = .returned (.int .i64 z)) (h2 : 0 ≤ z ↔ l.any p = true) : FoundPart p l e := ⟨z, h, h2⟩
theorem rd_part (l : List Part) (i : Nat) (h : i < l.length) : rd_T86 l (i : Int) = l[i] := by
 simp [rd_T86, List.getD_eq_getElem?_getD, h]

set_option maxHeartbeats 4000000 in
theorem indexFunc_part (g : Nat) (lb : Array Value) (p : Part → Bool) (A : Option Addr) (c : Nat) (l : List Part) (w : World) (hr : Kd.C k86 w A l.length l) (hp : PredPart g lb p l w)
  (eg : ∀ args w, (callFunc g args).run Try.prog w = .ok (.enter g args) w) :
  Calls Try.prog 136 #[.slice A l.length c, .func (.func g) #[] lb] w fun e w' => FoundPart p l e ∧ Below w.heap.size w w' := by
 have hl : l.length ≤ 9223372036854775807 := hr.2.1
 have HR := mz hr
 have HP := mz hp
 clear hr hp
 go_enter Try.func136, Try.ntmps136
 go_wp2
 go_loopg [5, 8] l.length (fun gg _ s8 wr => ∃ kk : Nat, kk ≤ l.length ∧ l.length - kk ≤ gg ∧ s8 = .int .i64 kk ∧ Aside0 (Below w.heap.size w wr) ∧ Aside0 ((l.take kk).any p = false))
 case atStart => exact ⟨0, Nat.zero_le _, by omega, rfl, ⟨Below.refl _ w⟩, ⟨by simp⟩⟩
 case round =>
  obtain ⟨kk, hkk, hg, rfl, BW, AN⟩ := hrel
  by_cases hlt : kk < l.length
  ·have hltz : (kk : Int) < (l.length : Int) := by omega
   obtain ⟨ad, e1, hx0, hx1, hx2⟩ := at_T86 (Kd.C_below HR.out BW.out) (kk : Int) (by omega) hltz
   cases e1
   rw [rd_part l kk hlt, Int.toNat_natCast] at hx0 hx1 hx2
   have hcall := HP.out wr l[kk] (List.getElem_mem hlt) BW.out
   have HE : Aside0 (l.take (kk + 1) = l.take kk ++ [l[kk]]) := ⟨List.take_succ_eq_append_getElem hlt⟩
   have HA : Aside0 ((l.any p = true) ↔ (p l[kk] = true ∨ (l.drop (kk + 1)).any p = true)) := ⟨by
    have h := List.take_append_drop (kk + 1) l
    have h2 : l.any p = ((l.take (kk + 1)).any p || (l.drop (kk + 1)).any p) := by rw [← List.any_append, h]
    rw [h2, HE.out, List.any_append, AN.out]
    simp⟩
   generalize l[kk] = y at hx0 hx1 hx2 hcall HE HA
   cases hq : p y with
   | true =>
    have HQ := mz hq
    rw [hq] at hcall
    clear hq
    go_wp2_with fail
    refine hcall.mono ?_
    rintro e w' ⟨rfl, hb'⟩
    go_wp2_with fail
    go_ret
    exact ⟨FoundPart.mk _ rfl (by rw [HA.out]; constructor <;> intro _ <;> first | exact Or.inl HQ.out | omega), hb'⟩
   | false =>
    have HQ := mz hq
    rw [hq] at hcall
    clear hq
    go_wp2_with fail
    refine hcall.mono ?_
    rintro e w' ⟨rfl, hb'⟩
    go_wp2_with fail
    go_roundg (l.length - (kk + 1))
    case measure => omega
    case rel =>
     refine ⟨kk + 1, by omega, by omega, by go_num, ⟨hb'⟩, ⟨?_⟩⟩
     rw [HE.out, List.any_append, AN.out]
     simp [HQ.out]
  ·have hltz : ¬ (kk : Int) < (l.length : Int) := by omega
   have : kk = l.length := by omega
   subst this
   go_wp2
   go_ret
   refine ⟨FoundPart.mk (-1) rfl ?_, BW.out⟩
   have h3 := AN.out
   rw [List.take_length] at h3
   exact ⟨fun h => absurd h (by decide), fun h => by rw [h3] at h; cases h⟩

set_option maxHeartbeats 2000000 in
theorem containsFunc_part (g : Nat) (lb : Array Value) (p : Part → Bool) (A : Option Addr) (c : Nat) (l : List Part) (w : World) (hr : Kd.C k86 w A l.length l) (hp : PredPart g lb p l w)
  (eg : ∀ args w, (callFunc g args).run Try.prog w = .ok (.enter g args) w) :
  Calls Try.prog 124 #[.slice A l.length c, .func (.func g) #[] lb] w fun e w' => e = .returned (.bool (l.any p)) ∧ Below w.heap.size w w' := by
 have HR := mz hr
 have HP := mz hp
 clear hr hp
 have HB : ∀ z : Int, (0 ≤ z ↔ l.any p = true) → decide (0 ≤ z) = l.any p := fun z h => by rw [Bool.eq_iff_iff]; simpa using h
 have HB' := mz HB
 clear HB
 go_enter Try.func124, Try.ntmps124
 go_wp2_with (go_at_call 136; refine (indexFunc_part g lb p A c l _ HR.out HP.out eg).mono ?_; rintro e w' ⟨⟨z, rfl, hz⟩, hb'⟩; have HZ := mz hz; clear hz)
 go_ret
 exact ⟨(by rw [← HB'.out z HZ.out]; rfl), hb'⟩

def sizedP (l : List Part) : Bool := l.all fun p => decide (p.f1.size ≤ maxLen) && decide (p.f2.size ≤ maxLen)
theorem sizedP_of {l : List Part} (h : sizedP l = true) : ∀ p ∈ l, p.f1.size ≤ maxLen ∧ p.f2.size ≤ maxLen := by
 simpa [sizedP] using h
theorem sizedP_mk {l : List Part} (h : ∀ p ∈ l, p.f1.size ≤ maxLen ∧ p.f2.size ≤ maxLen) : sizedP l = true := by
 simpa [sizedP] using h

def slices_ContainsFunc_impl_Part_impl_Part_impl_GoodOp_1.f (l0 : List (S86)) : Option (Bool) := if sizedP l0 = true then some (l0.any fun p => !partB p) else none
theorem slices_ContainsFunc_impl_Part_impl_Part_impl_GoodOp_1.calls (A0 : Option Addr) (c0 : Nat) (l0 : List (S86)) (r : Bool) (w : World) (hr0 : Kd.C k86 w A0 l0.length l0) (hc0 : l0.length ≤ c0) (h : slices_ContainsFunc_impl_Part_impl_Part_impl_GoodOp_1.f l0 = some r) :
  Calls Try.prog 124 #[.slice A0 l0.length c0, .func (.func 125) #[] #[]] w fun e w' => e = .returned (.bool r) ∧ Below w.heap.size w w' := by
 unfold slices_ContainsFunc_impl_Part_impl_Part_impl_GoodOp_1.f at h
 by_cases hs : sizedP l0 = true
 ·rw [if_pos hs] at h
  have hz := sizedP_of hs
  obtain rfl := Option.some.inj h
  refine containsFunc_part _ #[] _ A0 c0 l0 w hr0 ?_ (Go.Proofs.enters_of Try.func125 (by kernel_rfl) rfl)
  intro W x hx hb
  obtain ⟨k, hk⟩ := Ev.rounds (isPart_ev x (hz x hx).1 (hz x hx).2)
  have hk' : impl_GoodOp_1.f k x.f0 x.f1 x.f2 = some (!partB x) := by unfold impl_GoodOp_1.f; rw [hk]; rfl
  refine (impl_GoodOp_1.calls k x.f0 x.f1 x.f2 _ W hk').mono ?_
  rintro e w' ⟨rfl, hb'⟩
  exact ⟨rfl, below_then hb hb.size hb'⟩
 ·rw [if_neg hs] at h
  exact absurd h (by simp)
section
attribute [local go_sem] max2_int min2_int max_two min_two max_three min_three max_four min_four
def impl_sizes.l0 : Nat → Int → Int → List (S86) → Int → Int → Option (Int × Int)
 | 0, _, _, _, _, _ => none
 | k + 1, x4, x5, x8, x9, x10 => if x10 < x9 then (if 0 ≤ x10 then (if x10 < (x8.length : Int) then (impl_sizes.l0 k (wrap64 (x4 + (wrap64 (((rd_T86 x8 x10).f0) + (((rd_T86 x8 x10).f2).size : Int))))) (wrap64 (x5 + (wrap64 (((rd_T86 x8 x10).f0) + (((rd_T86 x8 x10).f1).size : Int))))) x8 x9 (wrap64 (x10 + 1))) else (none)) else (none)) else (some (x4, x5))
def impl_sizes.f (k : Nat) (l0 : List (S86)) : Option (Int × Int) := impl_sizes.l0 k 0 0 l0 (l0.length : Int) 0
set_option maxHeartbeats 8000000 in
set_option maxRecDepth 100000 in
theorem impl_sizes.calls (k : Nat) (A0 : Option Addr) (c0 : Nat) (l0 : List (S86)) (r1 : Int) (r2 : Int) (w : World) (hr0 : Kd.C k86 w A0 l0.length l0) (hc0 : l0.length ≤ c0) (h : impl_sizes.f k l0 = some (r1, r2)) :
  Calls Try.prog 105 #[.slice A0 l0.length c0] w fun e w' => e = .returned (.tuple #[.int .i64 r1, .int .i64 r2]) ∧ Below w.heap.size w w' := by
 have hu86 := Try.underlying86
 have HR0 := mz hr0
 have HC0 := mz hc0
 clear hr0 hc0
 have HB := mz (Below.refl w.heap.size w)
 have H : (impl_sizes.l0 k 0 0 l0 (l0.length : Int) 0) = some (r1, r2) := h
 clear h
 have H' := mz H
 clear H
 go_enter Try.func105, Try.ntmps105
 go_wp2
 go_loopg [4, 5, 10] k (fun kq v4 v5 v10 w' => ∃ (x4_1 : Int) (x5_1 : Int) (x10_1 : Int), v4 = .int .i64 x4_1 ∧ v5 = .int .i64 x5_1 ∧ v10 = .int .i64 x10_1 ∧ Aside0 (impl_sizes.l0 kq x4_1 x5_1 l0 (l0.length : Int) x10_1 = some (r1, r2)) ∧ Aside0 (kq ≤ k) ∧ Aside0 (Below w.heap.size w w'))
 case atStart => exact ⟨(0), (0), (0), a30_, a30_, a30_, H', ⟨Nat.le_refl _⟩, ⟨by repeat (first | (with_reducible first | exact HB.out | apply below_alloc | apply pw_below_drewN | apply below_drew1) | exact HB.out)⟩⟩
 case round =>
  clear H'
  try clear c1
  obtain ⟨x4_1, x5_1, x10_1, rfl, rfl, rfl, HA, HK1, HB⟩ := hrel
  cases gk with
  | zero => exact absurd HA.out (by simp [impl_sizes.l0])
  | succ k1 =>
   have H := HA.out
   clear HA
   simp only [impl_sizes.l0] at H
   by_cases c2 : x10_1 < (l0.length : Int)
   ·rw [if_pos c2] at H
    have c2b0 : decide (x10_1 < (l0.length : Int)) = true := decide_eq_true c2
    clear c2
    by_cases c3 : 0 ≤ x10_1
    ·rw [if_pos c3] at H
     have c3b0 : decide (0 ≤ x10_1) = true := decide_eq_true c3
     clear c3
     by_cases c4 : x10_1 < (l0.length : Int)
     ·rw [if_pos c4] at H
      have c4b0 : decide (x10_1 < (l0.length : Int)) = true := decide_eq_true c4
      clear c4
      have H' := mz H
      clear H
      have p101 : 0 ≤ (x10_1 : Int) := of_decide_eq_true a29_
      have q101 : x10_1 < (l0.length : Int) := of_decide_eq_true a29_
      obtain ⟨ad101, e101, hx101_0, hx101_1, hx101_2⟩ := at_T86 HR0.out x10_1 p101 q101
      cases e101
      replace hx101_0 := bc_ HB.out hx101_0
      replace hx101_1 := bc_ HB.out hx101_1
      replace hx101_2 := bc_ HB.out hx101_2
      replace p101 := eq_true p101
      replace q101 := eq_true q101
      go_wp2_with (first | ((with_reducible refine gate_dst (N := 7) rfl ?_); refine bz_ 7 #[.int .i64 0, .string (⟨#[]⟩ : ByteArray), .string (⟨#[]⟩ : ByteArray)] 86 ?_; intro gb102 hg w5 hbox hb; have n0_ := mz (bs0_ hb); have n1_ := mz (hbox); have n2_ := mz ((by rw [hg]; exact bz1_ : w.heap.size ≤ gb102)); have n3_ := mz ((by rw [hg]; exact bz1_ : w.heap.size ≤ gb102)); clear HB; have HB := n0_; have BK102 := n1_; have GW102 := n2_; have GE102 := n3_; clear n0_ n1_ n2_ n3_; clear hb hbox hg; have hcz6_0 := bk_ BK102.out 0 (.int .i64 0); have hcz6_1 := bk_ BK102.out 1 (.string (⟨#[]⟩ : ByteArray)); have hcz6_2 := bk_ BK102.out 2 (.string (⟨#[]⟩ : ByteArray)); have hfz6_0 := blk_frozen BK102.out 0; have hfz6_1 := blk_frozen BK102.out 1; have hfz6_2 := blk_frozen BK102.out 2))
      go_roundg k1
      case measure => have := HK1.out; omega
      case rel => exact ⟨(wrap64 (x4_1 + (wrap64 (((rd_T86 l0 x10_1).f0) + (((rd_T86 l0 x10_1).f2).size : Int))))), (wrap64 (x5_1 + (wrap64 (((rd_T86 l0 x10_1).f0) + (((rd_T86 l0 x10_1).f1).size : Int))))), (wrap64 (x10_1 + 1)), a30_, a30_, a30_, H', ⟨by have := HK1.out; omega⟩, ⟨by repeat (first | (with_reducible first | exact HB.out | apply below_alloc | apply pw_below_drewN | apply below_drew1 | refine below_set ?_ GE102.out) | exact HB.out)⟩⟩
     ·rw [if_neg c4] at H
      exact absurd H (by simp)
    ·rw [if_neg c3] at H
     exact absurd H (by simp)
   ·rw [if_neg c2] at H
    have c2b0 : decide (x10_1 < (l0.length : Int)) = false := decide_eq_false c2
    clear c2
    simp only [Option.some.injEq, Prod.mk.injEq] at H
    obtain ⟨rfl, rfl⟩ := H
    go_wp2
    go_ret2
    exact ⟨a27_, a12_⟩
end
section
attribute [local go_sem] max2_int min2_int max_two min_two max_three min_three max_four min_four
def impl_GoodOp.f (k : Nat) (l0 : List (S86)) : Option (Bool) := if (l0.length : Int) > 60 then (some false) else ((slices_ContainsFunc_impl_Part_impl_Part_impl_GoodOp_1.f l0).bind fun t101 => (if t101 = true then (some false) else ((impl_sizes.f k l0).bind fun bt102 => (if bt102.1 ≤ 300 then (some (decide (bt102.2 ≤ 300))) else (some false)))))
set_option maxHeartbeats 8000000 in
set_option maxRecDepth 100000 in
theorem impl_GoodOp.calls (k : Nat) (A0 : Option Addr) (c0 : Nat) (l0 : List (S86)) (r : Bool) (w : World) (hr0 : Kd.C k86 w A0 l0.length l0) (hc0 : l0.length ≤ c0) (h : impl_GoodOp.f k l0 = some r) :
  Calls Try.prog 104 #[.slice A0 l0.length c0] w fun e w' => e = .returned (.bool r) ∧ Below w.heap.size w w' := by
 have HR0 := mz hr0
 have HC0 := mz hc0
 clear hr0 hc0
 have HB := mz (Below.refl w.heap.size w)
 have H : (if (l0.length : Int) > 60 then (some false) else ((slices_ContainsFunc_impl_Part_impl_Part_impl_GoodOp_1.f l0).bind fun t101 => (if t101 = true then (some false) else ((impl_sizes.f k l0).bind fun bt102 => (if bt102.1 ≤ 300 then (some (decide (bt102.2 ≤ 300))) else (some false)))))) = some r := h
 clear h
 by_cases c2 : (l0.length : Int) > 60
 ·rw [if_pos c2] at H
  have c2b0 : decide (60 < (l0.length : Int)) = true := decide_eq_true c2
  have c2b1 : decide (60 < l0.length) = true := decide_eq_true (by omega)
  clear c2
  obtain rfl := Option.some.inj H
  go_enter Try.func104, Try.ntmps104
  go_wp2
  go_ret
  exact ⟨a27_, a12_⟩
 ·rw [if_neg c2] at H
  have c2b0 : decide (60 < (l0.length : Int)) = false := decide_eq_false c2
  have c2b1 : decide (60 < l0.length) = false := decide_eq_false (by omega)
  clear c2
  replace H := be0_ H
  obtain ⟨t101, A30, H⟩ := H
  replace H : (if t101 = true then (some false) else ((impl_sizes.f k l0).bind fun bt102 => (if bt102.1 ≤ 300 then (some (decide (bt102.2 ≤ 300))) else (some false)))) = some r := H
  have A3 := mz A30
  clear A30
  by_cases c4 : t101 = true
  ·subst c4
   have H1 : (some false) = some r := by rw [if_pos rfl] at H; exact H
   clear H
   have H := H1
   clear H1
   obtain rfl := Option.some.inj H
   go_enter Try.func104, Try.ntmps104
   go_wp2_with (first | (go_at_call 124; (with_reducible refine (slices_ContainsFunc_impl_Part_impl_Part_impl_GoodOp_1.calls _ _ l0 true _ ?side1 ?side2 A3.out).mono ?_); (case side1 => repeat (first | exact HR0.out | (with_reducible refine Kd.C_alloc ?_ _) | (with_reducible refine Kd.C_drewN ?_ _) | (with_reducible refine Kd.C_drew ?_))); (case side2 => exact HC0.out); rintro e w5 ⟨rfl, hb⟩; have n0_ := mz (bs0_ hb); clear HB; have HB := n0_; clear n0_; (try clear hb); (try clear hb2); (try clear hk); (try clear hi)))
   go_ret
   exact ⟨a27_, a12_⟩
  ·replace c4 := Bool.eq_false_iff.mpr c4
   subst c4
   have H1 : ((impl_sizes.f k l0).bind fun bt102 => (if bt102.1 ≤ 300 then (some (decide (bt102.2 ≤ 300))) else (some false))) = some r := by rw [if_neg (show ¬ (false = true) by decide)] at H; exact H
   clear H
   have H := H1
   clear H1
   replace H := be0_ H
   obtain ⟨⟨t102, t103⟩, A60, H⟩ := H
   replace H : (if t102 ≤ 300 then (some (decide (t103 ≤ 300))) else (some false)) = some r := H
   have A6 := mz A60
   clear A60
   by_cases c7 : t102 ≤ 300
   ·rw [if_pos c7] at H
    have c7b0 : decide (t102 ≤ 300) = true := decide_eq_true c7
    clear c7
    obtain rfl := Option.some.inj H
    go_enter Try.func104, Try.ntmps104
    go_wp2_with (first | (go_at_call 124; (with_reducible refine (slices_ContainsFunc_impl_Part_impl_Part_impl_GoodOp_1.calls _ _ l0 false _ ?side1 ?side2 A3.out).mono ?_); (case side1 => repeat (first | exact HR0.out | (with_reducible refine Kd.C_alloc ?_ _) | (with_reducible refine Kd.C_drewN ?_ _) | (with_reducible refine Kd.C_drew ?_))); (case side2 => exact HC0.out); rintro e w8 ⟨rfl, hb⟩; have n0_ := mz (bs0_ hb); clear HB; have HB := n0_; clear n0_; (try clear hb); (try clear hb2); (try clear hk); (try clear hi)) | ((with_reducible refine gate_callee (f := 105) rfl ?_); refine goesL_ (some 14) rfl rfl Try.func105 (by kernel_rfl) rfl #[.slice A0 l0.length c0] rfl a11_ ?_; (with_reducible refine (impl_sizes.calls k _ _ l0 t102 t103 _ ?side1 ?side2 A6.out).mono ?_); (case side1 => repeat (first | exact (Kd.C_below HR0.out HB.out) | (with_reducible refine Kd.C_alloc ?_ _) | (with_reducible refine Kd.C_drewN ?_ _) | (with_reducible refine Kd.C_drew ?_))); (case side2 => exact HC0.out); rintro e w9 ⟨rfl, hb⟩; refine ⟨_, rfl, ?_⟩; have n0_ := mz (bs0_ hb); clear HB; have HB := n0_; clear n0_; (try clear hb); (try clear hb2); (try clear hk); (try clear hi)))
    go_ret
    exact ⟨a27_, a12_⟩
   ·rw [if_neg c7] at H
    have c7b0 : decide (t102 ≤ 300) = false := decide_eq_false c7
    clear c7
    obtain rfl := Option.some.inj H
    go_enter Try.func104, Try.ntmps104
    go_wp2_with (first | (go_at_call 124; (with_reducible refine (slices_ContainsFunc_impl_Part_impl_Part_impl_GoodOp_1.calls _ _ l0 false _ ?side1 ?side2 A3.out).mono ?_); (case side1 => repeat (first | exact HR0.out | (with_reducible refine Kd.C_alloc ?_ _) | (with_reducible refine Kd.C_drewN ?_ _) | (with_reducible refine Kd.C_drew ?_))); (case side2 => exact HC0.out); rintro e w10 ⟨rfl, hb⟩; have n0_ := mz (bs0_ hb); clear HB; have HB := n0_; clear n0_; (try clear hb); (try clear hb2); (try clear hk); (try clear hi)) | ((with_reducible refine gate_callee (f := 105) rfl ?_); refine goesL_ (some 14) rfl rfl Try.func105 (by kernel_rfl) rfl #[.slice A0 l0.length c0] rfl a11_ ?_; (with_reducible refine (impl_sizes.calls k _ _ l0 t102 t103 _ ?side1 ?side2 A6.out).mono ?_); (case side1 => repeat (first | exact (Kd.C_below HR0.out HB.out) | (with_reducible refine Kd.C_alloc ?_ _) | (with_reducible refine Kd.C_drewN ?_ _) | (with_reducible refine Kd.C_drew ?_))); (case side2 => exact HC0.out); rintro e w11 ⟨rfl, hb⟩; refine ⟨_, rfl, ?_⟩; have n0_ := mz (bs0_ hb); clear HB; have HB := n0_; clear n0_; (try clear hb); (try clear hb2); (try clear hk); (try clear hi)))
    go_ret
    exact ⟨a27_, a12_⟩
end
section
attribute [local go_sem] max2_int min2_int max_two min_two max_three min_three max_four min_four
mutual
def impl_ApplyOp.j0 : Nat → List (S86) → ByteArray → Bool → Option (ByteArray × Bool)
 | 0, _, _, _ => none
 | k + 1, x0, x1, x18 => if x18 = true then (some ((⟨#[]⟩ : ByteArray), false)) else ((impl_sizes.f k x0).bind fun bt103 => (if bt103.1 = (x1.size : Int) then (impl_ApplyOp.l0 k x1 (⟨#[]⟩ : ByteArray) x0 (x0.length : Int) 0) else (some ((⟨#[]⟩ : ByteArray), false))))
def impl_ApplyOp.l0 : Nat → ByteArray → ByteArray → List (S86) → Int → Int → Option (ByteArray × Bool)
 | 0, _, _, _, _, _ => none
 | k + 1, x1, x8, x28, x29, x30 => if x30 < x29 then (if 0 ≤ x30 then (if x30 < (x28.length : Int) then (if 0 ≤ (((rd_T86 x28 x30).f2).size : Int) then (if (((rd_T86 x28 x30).f2).size : Int) ≤ (x1.size : Int) then (if (x1.extract 0 ((((rd_T86 x28 x30).f2).size : Int) : Int).toNat).toList = ((rd_T86 x28 x30).f2).toList then (if 0 ≤ ((rd_T86 x28 x30).f0) then (if ((rd_T86 x28 x30).f0) ≤ (x1.size : Int) then (if (x1.extract 0 (((rd_T86 x28 x30).f0) : Int).toNat).size + ((rd_T86 x28 x30).f1).size ≤ 9223372036854775807 then (if x8.size + ((x1.extract 0 (((rd_T86 x28 x30).f0) : Int).toNat) ++ ((rd_T86 x28 x30).f1)).size ≤ 9223372036854775807 then (if 0 ≤ (wrap64 (((rd_T86 x28 x30).f0) + (((rd_T86 x28 x30).f2).size : Int))) then (if (wrap64 (((rd_T86 x28 x30).f0) + (((rd_T86 x28 x30).f2).size : Int))) ≤ (x1.size : Int) then (impl_ApplyOp.l0 k (x1.extract ((wrap64 (((rd_T86 x28 x30).f0) + (((rd_T86 x28 x30).f2).size : Int))) : Int).toNat x1.size) (x8 ++ ((x1.extract 0 (((rd_T86 x28 x30).f0) : Int).toNat) ++ ((rd_T86 x28 x30).f1))) x28 x29 (wrap64 (x30 + 1))) else (none)) else (none)) else (none)) else (none)) else (none)) else (none)) else (some ((⟨#[]⟩ : ByteArray), false))) else (none)) else (none)) else (none)) else (none)) else (some (x8, true))
end
def impl_ApplyOp.f (k : Nat) (l0 : List (S86)) (a1 : ByteArray) : Option (ByteArray × Bool) := (impl_GoodOp.f k l0).bind fun t101 => (if t101 = true then ((impl_GoodText.f k a1).bind fun t102 => (impl_ApplyOp.j0 k l0 a1 (!t102))) else (impl_ApplyOp.j0 k l0 a1 true))
set_option maxHeartbeats 8000000 in
set_option maxRecDepth 100000 in
theorem impl_ApplyOp.calls (k : Nat) (A0 : Option Addr) (c0 : Nat) (l0 : List (S86)) (a1 : ByteArray) (r1 : ByteArray) (r2 : Bool) (w : World) (hr0 : Kd.C k86 w A0 l0.length l0) (hc0 : l0.length ≤ c0) (h : impl_ApplyOp.f k l0 a1 = some (r1, r2)) :
  Calls Try.prog 51 #[.slice A0 l0.length c0, .string a1] w fun e w' => e = .returned (.tuple #[.string r1, .bool r2]) ∧ Below w.heap.size w w' := by
 have hu86 := Try.underlying86
 have HR0 := mz hr0
 have HC0 := mz hc0
 clear hr0 hc0
 have HB := mz (Below.refl w.heap.size w)
 have H : ((impl_GoodOp.f k l0).bind fun t101 => (if t101 = true then ((impl_GoodText.f k a1).bind fun t102 => (impl_ApplyOp.j0 k l0 a1 (!t102))) else (impl_ApplyOp.j0 k l0 a1 true))) = some (r1, r2) := h
 clear h
 have HC3 := mz H
 clear H
 go_enter Try.func51, Try.ntmps51
 go_upto_region 1 with (fail)
 repeat (go_quiet (fail); go_upto_region 1 with (fail))
 go_cut [18] (fun v18 wc => ∃ (kq : Nat) (x18_2 : Bool), v18 = .bool x18_2 ∧ Aside0 (impl_ApplyOp.j0 kq l0 a1 x18_2 = some (r1, r2)) ∧ Aside0 (kq ≤ k) ∧ Aside0 (Below w.heap.size w wc))
 case first =>
  have H := HC3.out
  clear HC3
  replace H := be0_ H
  obtain ⟨t101, A40, H⟩ := H
  replace H : (if t101 = true then ((impl_GoodText.f k a1).bind fun t102 => (impl_ApplyOp.j0 k l0 a1 (!t102))) else (impl_ApplyOp.j0 k l0 a1 true)) = some (r1, r2) := H
  have A4 := mz A40
  clear A40
  by_cases c5 : t101 = true
  ·subst c5
   have H1 : ((impl_GoodText.f k a1).bind fun t102 => (impl_ApplyOp.j0 k l0 a1 (!t102))) = some (r1, r2) := by rw [if_pos rfl] at H; exact H
   clear H
   have H := H1
   clear H1
   replace H := be0_ H
   obtain ⟨t102, A60, H⟩ := H
   replace H : (impl_ApplyOp.j0 k l0 a1 (!t102)) = some (r1, r2) := H
   have A6 := mz A60
   clear A60
   have H' := mz H
   clear H
   go_wp2_with (first | (go_at_call 104; (with_reducible refine (impl_GoodOp.calls k _ _ l0 true _ ?side1 ?side2 A4.out).mono ?_); (case side1 => repeat (first | exact (Kd.C_below HR0.out HB.out) | (with_reducible refine Kd.C_alloc ?_ _) | (with_reducible refine Kd.C_drewN ?_ _) | (with_reducible refine Kd.C_drew ?_))); (case side2 => exact HC0.out); rintro e w7 ⟨rfl, hb⟩; have n0_ := mz (bs0_ hb); clear HB; have HB := n0_; clear n0_; (try clear hb); (try clear hb2); (try clear hk); (try clear hi)) | (go_at_call 102; (with_reducible refine (impl_GoodText.calls k a1 t102 _ A6.out).mono ?_); rintro e w' ⟨rfl, ⟨nd, rfl⟩⟩; (try first | exact ⟨rfl, _, World.drewN_drewN _ _ _⟩ | exact ⟨rfl, _, Eq.trans (World.drewN_drewN _ _ _) (congrArg (World.drewN _) (Nat.add_assoc _ _ _))⟩)))
   repeat (go_quiet (first | (go_at_call 104; (with_reducible refine (impl_GoodOp.calls k _ _ l0 true _ ?side1 ?side2 A4.out).mono ?_); (case side1 => repeat (first | exact (Kd.C_below HR0.out HB.out) | (with_reducible refine Kd.C_alloc ?_ _) | (with_reducible refine Kd.C_drewN ?_ _) | (with_reducible refine Kd.C_drew ?_))); (case side2 => exact HC0.out); rintro e w7 ⟨rfl, hb⟩; have n0_ := mz (bs0_ hb); clear HB; have HB := n0_; clear n0_; (try clear hb); (try clear hb2); (try clear hk); (try clear hi)) | (go_at_call 102; (with_reducible refine (impl_GoodText.calls k a1 t102 _ A6.out).mono ?_); rintro e w' ⟨rfl, ⟨nd, rfl⟩⟩; (try first | exact ⟨rfl, _, World.drewN_drewN _ _ _⟩ | exact ⟨rfl, _, Eq.trans (World.drewN_drewN _ _ _) (congrArg (World.drewN _) (Nat.add_assoc _ _ _))⟩))); try go_wp2_with (first | (go_at_call 104; (with_reducible refine (impl_GoodOp.calls k _ _ l0 true _ ?side1 ?side2 A4.out).mono ?_); (case side1 => repeat (first | exact (Kd.C_below HR0.out HB.out) | (with_reducible refine Kd.C_alloc ?_ _) | (with_reducible refine Kd.C_drewN ?_ _) | (with_reducible refine Kd.C_drew ?_))); (case side2 => exact HC0.out); rintro e w7 ⟨rfl, hb⟩; have n0_ := mz (bs0_ hb); clear HB; have HB := n0_; clear n0_; (try clear hb); (try clear hb2); (try clear hk); (try clear hi)) | (go_at_call 102; (with_reducible refine (impl_GoodText.calls k a1 t102 _ A6.out).mono ?_); rintro e w' ⟨rfl, ⟨nd, rfl⟩⟩; (try first | exact ⟨rfl, _, World.drewN_drewN _ _ _⟩ | exact ⟨rfl, _, Eq.trans (World.drewN_drewN _ _ _) (congrArg (World.drewN _) (Nat.add_assoc _ _ _))⟩))))
   go_meet
   case rel => exact ⟨_, (!t102), a30_, H', ⟨by first | omega | exact Nat.le_refl _⟩, ⟨by repeat (first | (with_reducible first | exact HB.out | apply below_alloc | apply pw_below_drewN | apply below_drew1) | exact HB.out)⟩⟩
  ·replace c5 := Bool.eq_false_iff.mpr c5
   subst c5
   have H1 : (impl_ApplyOp.j0 k l0 a1 true) = some (r1, r2) := by rw [if_neg (show ¬ (false = true) by decide)] at H; exact H
   clear H
   have H := H1
   clear H1
   have H' := mz H
   clear H
   go_wp2_with (first | (go_at_call 104; (with_reducible refine (impl_GoodOp.calls k _ _ l0 false _ ?side1 ?side2 A4.out).mono ?_); (case side1 => repeat (first | exact (Kd.C_below HR0.out HB.out) | (with_reducible refine Kd.C_alloc ?_ _) | (with_reducible refine Kd.C_drewN ?_ _) | (with_reducible refine Kd.C_drew ?_))); (case side2 => exact HC0.out); rintro e w8 ⟨rfl, hb⟩; have n0_ := mz (bs0_ hb); clear HB; have HB := n0_; clear n0_; (try clear hb); (try clear hb2); (try clear hk); (try clear hi)))
   repeat (go_quiet (first | (go_at_call 104; (with_reducible refine (impl_GoodOp.calls k _ _ l0 false _ ?side1 ?side2 A4.out).mono ?_); (case side1 => repeat (first | exact (Kd.C_below HR0.out HB.out) | (with_reducible refine Kd.C_alloc ?_ _) | (with_reducible refine Kd.C_drewN ?_ _) | (with_reducible refine Kd.C_drew ?_))); (case side2 => exact HC0.out); rintro e w8 ⟨rfl, hb⟩; have n0_ := mz (bs0_ hb); clear HB; have HB := n0_; clear n0_; (try clear hb); (try clear hb2); (try clear hk); (try clear hi))); try go_wp2_with (first | (go_at_call 104; (with_reducible refine (impl_GoodOp.calls k _ _ l0 false _ ?side1 ?side2 A4.out).mono ?_); (case side1 => repeat (first | exact (Kd.C_below HR0.out HB.out) | (with_reducible refine Kd.C_alloc ?_ _) | (with_reducible refine Kd.C_drewN ?_ _) | (with_reducible refine Kd.C_drew ?_))); (case side2 => exact HC0.out); rintro e w8 ⟨rfl, hb⟩; have n0_ := mz (bs0_ hb); clear HB; have HB := n0_; clear n0_; (try clear hb); (try clear hb2); (try clear hk); (try clear hi))))
   go_meet
   case rel => exact ⟨_, (true), a30_, H', ⟨by first | omega | exact Nat.le_refl _⟩, ⟨by repeat (first | (with_reducible first | exact HB.out | apply below_alloc | apply pw_below_drewN | apply below_drew1) | exact HB.out)⟩⟩
 case rest =>
  clear HC3
  try clear p2
  try clear c5
  obtain ⟨kq, x18_2, rfl, HA, HJ2, HB⟩ := hcut
  cases kq with
  | zero => exact absurd HA.out (by simp [impl_ApplyOp.j0])
  | succ kj2 =>
   have H := HA.out
   clear HA
   simp only [impl_ApplyOp.j0] at H
   by_cases c9 : x18_2 = true
   ·subst c9
    have H1 : (some ((⟨#[]⟩ : ByteArray), false)) = some (r1, r2) := by rw [if_pos rfl] at H; exact H
    clear H
    have H := H1
    clear H1
    simp only [Option.some.injEq, Prod.mk.injEq] at H
    obtain ⟨rfl, rfl⟩ := H
    go_wp2
    repeat (go_quiet (fail); try go_wp2)
    go_ret2
    exact ⟨a27_, a12_⟩
   ·replace c9 := Bool.eq_false_iff.mpr c9
    subst c9
    have H1 : ((impl_sizes.f kj2 l0).bind fun bt103 => (if bt103.1 = (a1.size : Int) then (impl_ApplyOp.l0 kj2 a1 (⟨#[]⟩ : ByteArray) l0 (l0.length : Int) 0) else (some ((⟨#[]⟩ : ByteArray), false)))) = some (r1, r2) := by rw [if_neg (show ¬ (false = true) by decide)] at H; exact H
    clear H
    have H := H1
    clear H1
    replace H := be0_ H
    obtain ⟨⟨t103, t104⟩, A100, H⟩ := H
    replace H : (if t103 = (a1.size : Int) then (impl_ApplyOp.l0 kj2 a1 (⟨#[]⟩ : ByteArray) l0 (l0.length : Int) 0) else (some ((⟨#[]⟩ : ByteArray), false))) = some (r1, r2) := H
    have A10 := mz A100
    clear A100
    by_cases c11 : t103 = (a1.size : Int)
    ·rw [if_pos c11] at H
     have c11b0 : (t103 == (a1.size : Int)) = true := beq_iff_eq.mpr c11
     have c11b1 : (t103 != (a1.size : Int)) = false := bne_eq_false_iff_eq.mpr c11
     clear c11
     have H' := mz H
     clear H
     go_wp2_with (first | (go_at_call 105; (with_reducible refine (impl_sizes.calls kj2 _ _ l0 t103 t104 _ ?side1 ?side2 A10.out).mono ?_); (case side1 => repeat (first | exact (Kd.C_below HR0.out HB.out) | (with_reducible refine Kd.C_alloc ?_ _) | (with_reducible refine Kd.C_drewN ?_ _) | (with_reducible refine Kd.C_drew ?_))); (case side2 => exact HC0.out); rintro e w12 ⟨rfl, hb⟩; have n0_ := mz (bs0_ hb); clear HB; have HB := n0_; clear n0_; (try clear hb); (try clear hb2); (try clear hk); (try clear hi)))
     repeat (go_quiet (first | (go_at_call 105; (with_reducible refine (impl_sizes.calls kj2 _ _ l0 t103 t104 _ ?side1 ?side2 A10.out).mono ?_); (case side1 => repeat (first | exact (Kd.C_below HR0.out HB.out) | (with_reducible refine Kd.C_alloc ?_ _) | (with_reducible refine Kd.C_drewN ?_ _) | (with_reducible refine Kd.C_drew ?_))); (case side2 => exact HC0.out); rintro e w12 ⟨rfl, hb⟩; have n0_ := mz (bs0_ hb); clear HB; have HB := n0_; clear n0_; (try clear hb); (try clear hb2); (try clear hk); (try clear hi))); try go_wp2_with (first | (go_at_call 105; (with_reducible refine (impl_sizes.calls kj2 _ _ l0 t103 t104 _ ?side1 ?side2 A10.out).mono ?_); (case side1 => repeat (first | exact (Kd.C_below HR0.out HB.out) | (with_reducible refine Kd.C_alloc ?_ _) | (with_reducible refine Kd.C_drewN ?_ _) | (with_reducible refine Kd.C_drew ?_))); (case side2 => exact HC0.out); rintro e w12 ⟨rfl, hb⟩; have n0_ := mz (bs0_ hb); clear HB; have HB := n0_; clear n0_; (try clear hb); (try clear hb2); (try clear hk); (try clear hi))))
     go_loopg [1, 8, 30] kj2 (fun kq v1 v8 v30 w' => ∃ (x1_2 : ByteArray) (x8_2 : ByteArray) (x30_2 : Int), v1 = .string x1_2 ∧ v8 = .string x8_2 ∧ v30 = .int .i64 x30_2 ∧ Aside0 (impl_ApplyOp.l0 kq x1_2 x8_2 l0 (l0.length : Int) x30_2 = some (r1, r2)) ∧ Aside0 (kq ≤ kj2) ∧ Aside0 (Below w.heap.size w w'))
     case atStart => exact ⟨(a1), ((⟨#[]⟩ : ByteArray)), (0), a30_, a30_, a30_, H', ⟨Nat.le_refl _⟩, ⟨by repeat (first | (with_reducible first | exact HB.out | apply below_alloc | apply pw_below_drewN | apply below_drew1) | exact HB.out)⟩⟩
     case round =>
      clear H'
      try clear c1
      try clear p2
      try clear c5
      try clear c9
      try clear c11
      try clear c11b0
      try clear c11b1
      try clear p2
      obtain ⟨x1_2, x8_2, x30_2, rfl, rfl, rfl, HA, HK2, HB⟩ := hrel
      cases gk with
      | zero => exact absurd HA.out (by simp [impl_ApplyOp.l0])
      | succ k2 =>
       have H := HA.out
       clear HA
       simp only [impl_ApplyOp.l0] at H
       by_cases c13 : x30_2 < (l0.length : Int)
       ·rw [if_pos c13] at H
        have c13b0 : decide (x30_2 < (l0.length : Int)) = true := decide_eq_true c13
        clear c13
        by_cases c14 : 0 ≤ x30_2
        ·rw [if_pos c14] at H
         have c14b0 : decide (0 ≤ x30_2) = true := decide_eq_true c14
         clear c14
         by_cases c15 : x30_2 < (l0.length : Int)
         ·rw [if_pos c15] at H
          have c15b0 : decide (x30_2 < (l0.length : Int)) = true := decide_eq_true c15
          clear c15
          by_cases c16 : 0 ≤ (((rd_T86 l0 x30_2).f2).size : Int)
          ·rw [if_pos c16] at H
           have c16b0 := eq_true c16
           have c16b1 : decide (0 ≤ (((rd_T86 l0 x30_2).f2).size : Int)) = true := decide_eq_true c16
           clear c16
           by_cases c17 : (((rd_T86 l0 x30_2).f2).size : Int) ≤ (x1_2.size : Int)
           ·rw [if_pos c17] at H
            have c17b0 := eq_true c17
            have c17b1 : decide ((((rd_T86 l0 x30_2).f2).size : Int) ≤ (x1_2.size : Int)) = true := decide_eq_true c17
            clear c17
            by_cases c18 : (x1_2.extract 0 ((((rd_T86 l0 x30_2).f2).size : Int) : Int).toNat).toList = ((rd_T86 l0 x30_2).f2).toList
            ·rw [if_pos c18] at H
             have c18b0 : ((x1_2.extract 0 ((((rd_T86 l0 x30_2).f2).size : Int) : Int).toNat).toList == ((rd_T86 l0 x30_2).f2).toList) = true := beq_iff_eq.mpr c18
             have c18b0n_ := c18b0
             (try simp only [Int.toNat_natCast] at c18b0n_)
             have c18b1 : ((x1_2.extract 0 ((((rd_T86 l0 x30_2).f2).size : Int) : Int).toNat).toList != ((rd_T86 l0 x30_2).f2).toList) = false := bne_eq_false_iff_eq.mpr c18
             have c18b1n_ := c18b1
             (try simp only [Int.toNat_natCast] at c18b1n_)
             clear c18
             by_cases c19 : 0 ≤ ((rd_T86 l0 x30_2).f0)
             ·rw [if_pos c19] at H
              have c19b0 := eq_true c19
              have c19b1 : decide (0 ≤ ((rd_T86 l0 x30_2).f0)) = true := decide_eq_true c19
              clear c19
              by_cases c20 : ((rd_T86 l0 x30_2).f0) ≤ (x1_2.size : Int)
              ·rw [if_pos c20] at H
               have c20b0 := eq_true c20
               have c20b1 : decide (((rd_T86 l0 x30_2).f0) ≤ (x1_2.size : Int)) = true := decide_eq_true c20
               clear c20
               by_cases c21 : (x1_2.extract 0 (((rd_T86 l0 x30_2).f0) : Int).toNat).size + ((rd_T86 l0 x30_2).f1).size ≤ 9223372036854775807
               ·rw [if_pos c21] at H
                have c21b0 := eq_true c21
                have c21b1 : decide ((x1_2.extract 0 (((rd_T86 l0 x30_2).f0) : Int).toNat).size + ((rd_T86 l0 x30_2).f1).size ≤ 9223372036854775807) = true := decide_eq_true c21
                try have c21b2 : (9223372036854775807 < (x1_2.extract 0 (((rd_T86 l0 x30_2).f0) : Int).toNat).size + ((rd_T86 l0 x30_2).f1).size) = False := eq_false (Nat.not_lt.2 c21)
                by_cases c22 : x8_2.size + ((x1_2.extract 0 (((rd_T86 l0 x30_2).f0) : Int).toNat) ++ ((rd_T86 l0 x30_2).f1)).size ≤ 9223372036854775807
                ·rw [if_pos c22] at H
                 have c22b0 := eq_true c22
                 have c22b1 : decide (x8_2.size + ((x1_2.extract 0 (((rd_T86 l0 x30_2).f0) : Int).toNat) ++ ((rd_T86 l0 x30_2).f1)).size ≤ 9223372036854775807) = true := decide_eq_true c22
                 try have c22b2 : (9223372036854775807 < x8_2.size + ((x1_2.extract 0 (((rd_T86 l0 x30_2).f0) : Int).toNat) ++ ((rd_T86 l0 x30_2).f1)).size) = False := eq_false (Nat.not_lt.2 c22)
                 try have c22b3 := c22b2
                 try simp only [ByteArray.size_append] at c22b3
                 obtain ⟨ji23, hji23⟩ : ∃ j_ : Int, (wrap64 (((rd_T86 l0 x30_2).f0) + (((rd_T86 l0 x30_2).f2).size : Int))) = j_ := ⟨_, rfl⟩
                 replace H : (if 0 ≤ (ji23) then (if (ji23) ≤ (x1_2.size : Int) then (impl_ApplyOp.l0 k2 (x1_2.extract ((ji23) : Int).toNat x1_2.size) (x8_2 ++ ((x1_2.extract 0 (((rd_T86 l0 x30_2).f0) : Int).toNat) ++ ((rd_T86 l0 x30_2).f1))) l0 (l0.length : Int) (wrap64 (x30_2 + 1))) else (none)) else (none)) = some (r1, r2) := by first | (rw [hji23] at H; exact H) | (simp only [hji23] at H ⊢; exact H)
                 have hji23w : (IntKind.i64.wrap (((rd_T86 l0 x30_2).f0) + (((rd_T86 l0 x30_2).f2).size : Int))) = ji23 := (i64_w _).trans hji23
                 by_cases c24 : 0 ≤ (ji23)
                 ·rw [if_pos c24] at H
                  have c24b0 := eq_true c24
                  have c24b1 : decide (0 ≤ (ji23)) = true := decide_eq_true c24
                  clear c24
                  by_cases c25 : (ji23) ≤ (x1_2.size : Int)
                  ·rw [if_pos c25] at H
                   have c25b0 := eq_true c25
                   have c25b1 : decide ((ji23) ≤ (x1_2.size : Int)) = true := decide_eq_true c25
                   clear c25
                   have H' := mz H
                   clear H
                   have p105 : 0 ≤ (x30_2 : Int) := of_decide_eq_true a29_
                   have q105 : x30_2 < (l0.length : Int) := of_decide_eq_true a29_
                   obtain ⟨ad105, e105, hx105_0, hx105_1, hx105_2⟩ := at_T86 HR0.out x30_2 p105 q105
                   cases e105
                   replace hx105_0 := bc_ HB.out hx105_0
                   replace hx105_1 := bc_ HB.out hx105_1
                   replace hx105_2 := bc_ HB.out hx105_2
                   replace p105 := eq_true p105
                   replace q105 := eq_true q105
                   go_wp2_with (first | ((with_reducible refine gate_dst (N := 10) rfl ?_); refine bz_ 10 #[.int .i64 0, .string (⟨#[]⟩ : ByteArray), .string (⟨#[]⟩ : ByteArray)] 86 ?_; intro gb106 hg w26 hbox hb; have n0_ := mz (bs0_ hb); have n1_ := mz (hbox); have n2_ := mz ((by rw [hg]; exact bz1_ : w.heap.size ≤ gb106)); have n3_ := mz ((by rw [hg]; exact bz1_ : w.heap.size ≤ gb106)); clear HB; have HB := n0_; have BK106 := n1_; have GW106 := n2_; have GE106 := n3_; clear n0_ n1_ n2_ n3_; clear hb hbox hg; have hcz27_0 := bk_ BK106.out 0 (.int .i64 0); have hcz27_1 := bk_ BK106.out 1 (.string (⟨#[]⟩ : ByteArray)); have hcz27_2 := bk_ BK106.out 2 (.string (⟨#[]⟩ : ByteArray)); have hfz27_0 := blk_frozen BK106.out 0; have hfz27_1 := blk_frozen BK106.out 1; have hfz27_2 := blk_frozen BK106.out 2))
                   repeat (go_quiet (first | ((with_reducible refine gate_dst (N := 10) rfl ?_); refine bz_ 10 #[.int .i64 0, .string (⟨#[]⟩ : ByteArray), .string (⟨#[]⟩ : ByteArray)] 86 ?_; intro gb106 hg w26 hbox hb; have n0_ := mz (bs0_ hb); have n1_ := mz (hbox); have n2_ := mz ((by rw [hg]; exact bz1_ : w.heap.size ≤ gb106)); have n3_ := mz ((by rw [hg]; exact bz1_ : w.heap.size ≤ gb106)); clear HB; have HB := n0_; have BK106 := n1_; have GW106 := n2_; have GE106 := n3_; clear n0_ n1_ n2_ n3_; clear hb hbox hg; have hcz27_0 := bk_ BK106.out 0 (.int .i64 0); have hcz27_1 := bk_ BK106.out 1 (.string (⟨#[]⟩ : ByteArray)); have hcz27_2 := bk_ BK106.out 2 (.string (⟨#[]⟩ : ByteArray)); have hfz27_0 := blk_frozen BK106.out 0; have hfz27_1 := blk_frozen BK106.out 1; have hfz27_2 := blk_frozen BK106.out 2)); try go_wp2_with (first | ((with_reducible refine gate_dst (N := 10) rfl ?_); refine bz_ 10 #[.int .i64 0, .string (⟨#[]⟩ : ByteArray), .string (⟨#[]⟩ : ByteArray)] 86 ?_; intro gb106 hg w26 hbox hb; have n0_ := mz (bs0_ hb); have n1_ := mz (hbox); have n2_ := mz ((by rw [hg]; exact bz1_ : w.heap.size ≤ gb106)); have n3_ := mz ((by rw [hg]; exact bz1_ : w.heap.size ≤ gb106)); clear HB; have HB := n0_; have BK106 := n1_; have GW106 := n2_; have GE106 := n3_; clear n0_ n1_ n2_ n3_; clear hb hbox hg; have hcz27_0 := bk_ BK106.out 0 (.int .i64 0); have hcz27_1 := bk_ BK106.out 1 (.string (⟨#[]⟩ : ByteArray)); have hcz27_2 := bk_ BK106.out 2 (.string (⟨#[]⟩ : ByteArray)); have hfz27_0 := blk_frozen BK106.out 0; have hfz27_1 := blk_frozen BK106.out 1; have hfz27_2 := blk_frozen BK106.out 2)))
                   go_roundg k2
                   case measure => have := HJ2.out; have := HK2.out; omega
                   case rel => exact ⟨(x1_2.extract ((ji23) : Int).toNat x1_2.size), (x8_2 ++ ((x1_2.extract 0 (((rd_T86 l0 x30_2).f0) : Int).toNat) ++ ((rd_T86 l0 x30_2).f1))), (wrap64 (x30_2 + 1)), (by first | rfl | (simp; done) | (simp only [← hji23] <;> (first | rfl | simp)) | (simp [*]; done)), a30_, a30_, (by first | exact H' | (simp only [hji23]; exact H') | (subst hji23; exact H')), ⟨by have := HJ2.out; have := HK2.out; omega⟩, ⟨by repeat (first | (with_reducible first | exact HB.out | apply below_alloc | apply pw_below_drewN | apply below_drew1 | refine below_set ?_ GE106.out) | exact HB.out)⟩⟩
                  ·rw [if_neg c25] at H
                   exact absurd H (by simp)
                 ·rw [if_neg c24] at H
                  exact absurd H (by simp)
                ·rw [if_neg c22] at H
                 exact absurd H (by simp)
               ·rw [if_neg c21] at H
                exact absurd H (by simp)
              ·rw [if_neg c20] at H
               exact absurd H (by simp)
             ·rw [if_neg c19] at H
              exact absurd H (by simp)
            ·rw [if_neg c18] at H
             have c18b0 : ((x1_2.extract 0 ((((rd_T86 l0 x30_2).f2).size : Int) : Int).toNat).toList == ((rd_T86 l0 x30_2).f2).toList) = false := beq_eq_false_iff_ne.mpr c18
             have c18b0n_ := c18b0
             (try simp only [Int.toNat_natCast] at c18b0n_)
             have c18b1 : ((x1_2.extract 0 ((((rd_T86 l0 x30_2).f2).size : Int) : Int).toNat).toList != ((rd_T86 l0 x30_2).f2).toList) = true := bne_iff_ne.mpr c18
             have c18b1n_ := c18b1
             (try simp only [Int.toNat_natCast] at c18b1n_)
             simp only [Option.some.injEq, Prod.mk.injEq] at H
             obtain ⟨rfl, rfl⟩ := H
             have p105 : 0 ≤ (x30_2 : Int) := of_decide_eq_true a29_
             have q105 : x30_2 < (l0.length : Int) := of_decide_eq_true a29_
             obtain ⟨ad105, e105, hx105_0, hx105_1, hx105_2⟩ := at_T86 HR0.out x30_2 p105 q105
             cases e105
             replace hx105_0 := bc_ HB.out hx105_0
             replace hx105_1 := bc_ HB.out hx105_1
             replace hx105_2 := bc_ HB.out hx105_2
             replace p105 := eq_true p105
             replace q105 := eq_true q105
             go_wp2_with (first | ((with_reducible refine gate_dst (N := 10) rfl ?_); refine bz_ 10 #[.int .i64 0, .string (⟨#[]⟩ : ByteArray), .string (⟨#[]⟩ : ByteArray)] 86 ?_; intro gb106 hg w28 hbox hb; have n0_ := mz (bs0_ hb); have n1_ := mz (hbox); have n2_ := mz ((by rw [hg]; exact bz1_ : w.heap.size ≤ gb106)); have n3_ := mz ((by rw [hg]; exact bz1_ : w.heap.size ≤ gb106)); clear HB; have HB := n0_; have BK106 := n1_; have GW106 := n2_; have GE106 := n3_; clear n0_ n1_ n2_ n3_; clear hb hbox hg; have hcz29_0 := bk_ BK106.out 0 (.int .i64 0); have hcz29_1 := bk_ BK106.out 1 (.string (⟨#[]⟩ : ByteArray)); have hcz29_2 := bk_ BK106.out 2 (.string (⟨#[]⟩ : ByteArray)); have hfz29_0 := blk_frozen BK106.out 0; have hfz29_1 := blk_frozen BK106.out 1; have hfz29_2 := blk_frozen BK106.out 2))
             repeat (go_quiet (first | ((with_reducible refine gate_dst (N := 10) rfl ?_); refine bz_ 10 #[.int .i64 0, .string (⟨#[]⟩ : ByteArray), .string (⟨#[]⟩ : ByteArray)] 86 ?_; intro gb106 hg w28 hbox hb; have n0_ := mz (bs0_ hb); have n1_ := mz (hbox); have n2_ := mz ((by rw [hg]; exact bz1_ : w.heap.size ≤ gb106)); have n3_ := mz ((by rw [hg]; exact bz1_ : w.heap.size ≤ gb106)); clear HB; have HB := n0_; have BK106 := n1_; have GW106 := n2_; have GE106 := n3_; clear n0_ n1_ n2_ n3_; clear hb hbox hg; have hcz29_0 := bk_ BK106.out 0 (.int .i64 0); have hcz29_1 := bk_ BK106.out 1 (.string (⟨#[]⟩ : ByteArray)); have hcz29_2 := bk_ BK106.out 2 (.string (⟨#[]⟩ : ByteArray)); have hfz29_0 := blk_frozen BK106.out 0; have hfz29_1 := blk_frozen BK106.out 1; have hfz29_2 := blk_frozen BK106.out 2)); try go_wp2_with (first | ((with_reducible refine gate_dst (N := 10) rfl ?_); refine bz_ 10 #[.int .i64 0, .string (⟨#[]⟩ : ByteArray), .string (⟨#[]⟩ : ByteArray)] 86 ?_; intro gb106 hg w28 hbox hb; have n0_ := mz (bs0_ hb); have n1_ := mz (hbox); have n2_ := mz ((by rw [hg]; exact bz1_ : w.heap.size ≤ gb106)); have n3_ := mz ((by rw [hg]; exact bz1_ : w.heap.size ≤ gb106)); clear HB; have HB := n0_; have BK106 := n1_; have GW106 := n2_; have GE106 := n3_; clear n0_ n1_ n2_ n3_; clear hb hbox hg; have hcz29_0 := bk_ BK106.out 0 (.int .i64 0); have hcz29_1 := bk_ BK106.out 1 (.string (⟨#[]⟩ : ByteArray)); have hcz29_2 := bk_ BK106.out 2 (.string (⟨#[]⟩ : ByteArray)); have hfz29_0 := blk_frozen BK106.out 0; have hfz29_1 := blk_frozen BK106.out 1; have hfz29_2 := blk_frozen BK106.out 2)))
             go_ret2
             exact ⟨a27_, (by repeat (first | (with_reducible first | exact HB.out | apply below_alloc | apply pw_below_drewN | apply below_drew1 | refine below_set ?_ GE106.out) | exact HB.out))⟩
           ·rw [if_neg c17] at H
            exact absurd H (by simp)
          ·rw [if_neg c16] at H
           exact absurd H (by simp)
         ·rw [if_neg c15] at H
          exact absurd H (by simp)
        ·rw [if_neg c14] at H
         exact absurd H (by simp)
       ·rw [if_neg c13] at H
        have c13b0 : decide (x30_2 < (l0.length : Int)) = false := decide_eq_false c13
        clear c13
        simp only [Option.some.injEq, Prod.mk.injEq] at H
        obtain ⟨rfl, rfl⟩ := H
        go_wp2
        repeat (go_quiet (fail); try go_wp2)
        go_ret2
        exact ⟨a27_, a12_⟩
    ·rw [if_neg c11] at H
     have c11b0 : (t103 == (a1.size : Int)) = false := beq_eq_false_iff_ne.mpr c11
     have c11b1 : (t103 != (a1.size : Int)) = true := bne_iff_ne.mpr c11
     simp only [Option.some.injEq, Prod.mk.injEq] at H
     obtain ⟨rfl, rfl⟩ := H
     go_wp2_with (first | (go_at_call 105; (with_reducible refine (impl_sizes.calls kj2 _ _ l0 t103 t104 _ ?side1 ?side2 A10.out).mono ?_); (case side1 => repeat (first | exact (Kd.C_below HR0.out HB.out) | (with_reducible refine Kd.C_alloc ?_ _) | (with_reducible refine Kd.C_drewN ?_ _) | (with_reducible refine Kd.C_drew ?_))); (case side2 => exact HC0.out); rintro e w30 ⟨rfl, hb⟩; have n0_ := mz (bs0_ hb); clear HB; have HB := n0_; clear n0_; (try clear hb); (try clear hb2); (try clear hk); (try clear hi)))
     repeat (go_quiet (first | (go_at_call 105; (with_reducible refine (impl_sizes.calls kj2 _ _ l0 t103 t104 _ ?side1 ?side2 A10.out).mono ?_); (case side1 => repeat (first | exact (Kd.C_below HR0.out HB.out) | (with_reducible refine Kd.C_alloc ?_ _) | (with_reducible refine Kd.C_drewN ?_ _) | (with_reducible refine Kd.C_drew ?_))); (case side2 => exact HC0.out); rintro e w30 ⟨rfl, hb⟩; have n0_ := mz (bs0_ hb); clear HB; have HB := n0_; clear n0_; (try clear hb); (try clear hb2); (try clear hk); (try clear hi))); try go_wp2_with (first | (go_at_call 105; (with_reducible refine (impl_sizes.calls kj2 _ _ l0 t103 t104 _ ?side1 ?side2 A10.out).mono ?_); (case side1 => repeat (first | exact (Kd.C_below HR0.out HB.out) | (with_reducible refine Kd.C_alloc ?_ _) | (with_reducible refine Kd.C_drewN ?_ _) | (with_reducible refine Kd.C_drew ?_))); (case side2 => exact HC0.out); rintro e w30 ⟨rfl, hb⟩; have n0_ := mz (bs0_ hb); clear HB; have HB := n0_; clear n0_; (try clear hb); (try clear hb2); (try clear hk); (try clear hi))))
     go_ret2
     exact ⟨a27_, a12_⟩
end
section
attribute [local go_sem] max2_int min2_int max_two min_two max_three min_three max_four min_four
mutual
def spec_l3Apply.l0 : Nat → ByteArray → ByteArray → List (S86) → Int → Int → Option (ByteArray × Bool)
 | 0, _, _, _, _, _ => none
 | k + 1, x1, x6, x10, x11, x12 => if x12 < x11 then (if 0 ≤ x12 then (if x12 < (x10.length : Int) then (if (wrap64 (((rd_T86 x10 x12).f0) + (((rd_T86 x10 x12).f2).size : Int))) > (x1.size : Int) then (spec_l3Apply.j1 k x1 x6 (wrap64 (((rd_T86 x10 x12).f0) + (((rd_T86 x10 x12).f2).size : Int))) x10 x11 x12 true ((rd_T86 x10 x12).f0) ((rd_T86 x10 x12).f1) ((rd_T86 x10 x12).f2)) else (if ((rd_T86 x10 x12).f2).toList = ([] : List UInt8) then (spec_l3Apply.j1 k x1 x6 (wrap64 (((rd_T86 x10 x12).f0) + (((rd_T86 x10 x12).f2).size : Int))) x10 x11 x12 false ((rd_T86 x10 x12).f0) ((rd_T86 x10 x12).f1) ((rd_T86 x10 x12).f2)) else (if 0 ≤ (wrap64 (((rd_T86 x10 x12).f0) + (((rd_T86 x10 x12).f2).size : Int))) then (if (wrap64 (((rd_T86 x10 x12).f0) + (((rd_T86 x10 x12).f2).size : Int))) ≤ (x1.size : Int) then (spec_l3Apply.j1 k x1 x6 (wrap64 (((rd_T86 x10 x12).f0) + (((rd_T86 x10 x12).f2).size : Int))) x10 x11 x12 ((x1.extract 0 ((wrap64 (((rd_T86 x10 x12).f0) + (((rd_T86 x10 x12).f2).size : Int))) : Int).toNat).toList != ((rd_T86 x10 x12).f2).toList) ((rd_T86 x10 x12).f0) ((rd_T86 x10 x12).f1) ((rd_T86 x10 x12).f2)) else (none)) else (none)))) else (none)) else (none)) else (some (x6, (x1.toList == ([] : List UInt8))))
def spec_l3Apply.j1 : Nat → ByteArray → ByteArray → Int → List (S86) → Int → Int → Bool → Int → ByteArray → ByteArray → Option (ByteArray × Bool)
 | 0, _, _, _, _, _, _, _, _, _, _ => none
 | k + 1, x1, x6, x9, x10, x11, x12, x38, x103000, x103001, x103002 => if x38 = true then (some ((⟨#[]⟩ : ByteArray), false)) else (if x103000 > 0 then (if 0 ≤ x9 then (if x9 ≤ (x1.size : Int) then (if x6.size + (x1.extract 0 (x9 : Int).toNat).size ≤ 9223372036854775807 then (if (x6 ++ (x1.extract 0 (x9 : Int).toNat)).size + x103001.size ≤ 9223372036854775807 then (spec_l3Apply.l0 k (x1.extract (x9 : Int).toNat x1.size) ((x6 ++ (x1.extract 0 (x9 : Int).toNat)) ++ x103001) x10 x11 (wrap64 (x12 + 1))) else (none)) else (none)) else (none)) else (none)) else (if x6.size + x103001.size ≤ 9223372036854775807 then (if 0 ≤ x9 then (if x9 ≤ (x1.size : Int) then (spec_l3Apply.l0 k (x1.extract (x9 : Int).toNat x1.size) (x6 ++ x103001) x10 x11 (wrap64 (x12 + 1))) else (none)) else (none)) else (none)))
end
def spec_l3Apply.f (k : Nat) (l0 : List (S86)) (a1 : ByteArray) : Option (ByteArray × Bool) := spec_l3Apply.l0 k a1 (⟨#[]⟩ : ByteArray) l0 (l0.length : Int) 0
set_option maxHeartbeats 8000000 in
set_option maxRecDepth 100000 in
theorem spec_l3Apply.calls (k : Nat) (A0 : Option Addr) (c0 : Nat) (l0 : List (S86)) (a1 : ByteArray) (r1 : ByteArray) (r2 : Bool) (w : World) (hr0 : Kd.C k86 w A0 l0.length l0) (hc0 : l0.length ≤ c0) (h : spec_l3Apply.f k l0 a1 = some (r1, r2)) :
  Calls Try.prog 45 #[.slice A0 l0.length c0, .string a1] w fun e w' => e = .returned (.tuple #[.string r1, .bool r2]) ∧ Below w.heap.size w w' := by
 have hu86 := Try.underlying86
 have HR0 := mz hr0
 have HC0 := mz hc0
 clear hr0 hc0
 have HB := mz (Below.refl w.heap.size w)
 have H : (spec_l3Apply.l0 k a1 (⟨#[]⟩ : ByteArray) l0 (l0.length : Int) 0) = some (r1, r2) := h
 clear h
 have H' := mz H
 clear H
 go_enter Try.func45, Try.ntmps45
 go_wp2
 repeat (go_quiet (fail); try go_wp2)
 go_loopg [1, 6, 12] k (fun kq v1 v6 v12 w' => ∃ (x1_1 : ByteArray) (x6_1 : ByteArray) (x12_1 : Int), v1 = .string x1_1 ∧ v6 = .string x6_1 ∧ v12 = .int .i64 x12_1 ∧ Aside0 (spec_l3Apply.l0 kq x1_1 x6_1 l0 (l0.length : Int) x12_1 = some (r1, r2)) ∧ Aside0 (kq ≤ k) ∧ Aside0 (Below w.heap.size w w'))
 case atStart => exact ⟨(a1), ((⟨#[]⟩ : ByteArray)), (0), a30_, a30_, a30_, H', ⟨Nat.le_refl _⟩, ⟨by repeat (first | (with_reducible first | exact HB.out | apply below_alloc | apply pw_below_drewN | apply below_drew1) | exact HB.out)⟩⟩
 case round =>
  clear H'
  try clear p2
  obtain ⟨x1_1, x6_1, x12_1, rfl, rfl, rfl, HA, HK1, HB⟩ := hrel
  cases gk with
  | zero => exact absurd HA.out (by simp [spec_l3Apply.l0])
  | succ k1 =>
   have H := HA.out
   clear HA
   simp only [spec_l3Apply.l0] at H
   by_cases c3 : x12_1 < (l0.length : Int)
   ·rw [if_pos c3] at H
    have c3b0 : decide (x12_1 < (l0.length : Int)) = true := decide_eq_true c3
    clear c3
    by_cases c4 : 0 ≤ x12_1
    ·rw [if_pos c4] at H
     have c4b0 : decide (0 ≤ x12_1) = true := decide_eq_true c4
     clear c4
     by_cases c5 : x12_1 < (l0.length : Int)
     ·rw [if_pos c5] at H
      have c5b0 : decide (x12_1 < (l0.length : Int)) = true := decide_eq_true c5
      clear c5
      have HC6 := mz H
      clear H
      have p101 : 0 ≤ (x12_1 : Int) := of_decide_eq_true a29_
      have q101 : x12_1 < (l0.length : Int) := of_decide_eq_true a29_
      obtain ⟨ad101, e101, hx101_0, hx101_1, hx101_2⟩ := at_T86 HR0.out x12_1 p101 q101
      cases e101
      replace hx101_0 := bc_ HB.out hx101_0
      replace hx101_1 := bc_ HB.out hx101_1
      replace hx101_2 := bc_ HB.out hx101_2
      replace p101 := eq_true p101
      replace q101 := eq_true q101
      go_upto_region 6 with (first | ((with_reducible refine gate_dst (N := 8) rfl ?_); refine bz_ 8 #[.int .i64 0, .string (⟨#[]⟩ : ByteArray), .string (⟨#[]⟩ : ByteArray)] 86 ?_; intro gb102 hg w7 hbox hb; have n0_ := mz (bs0_ hb); have n1_ := mz (hbox); have n2_ := mz ((by rw [hg]; exact bz1_ : w.heap.size ≤ gb102)); have n3_ := mz ((by rw [hg]; exact bz1_ : w.heap.size ≤ gb102)); clear HB; have HB := n0_; have BK102 := n1_; have GW102 := n2_; have GE102 := n3_; clear n0_ n1_ n2_ n3_; clear hb hbox hg; have hcz8_0 := bk_ BK102.out 0 (.int .i64 0); have hcz8_1 := bk_ BK102.out 1 (.string (⟨#[]⟩ : ByteArray)); have hcz8_2 := bk_ BK102.out 2 (.string (⟨#[]⟩ : ByteArray)); have hfz8_0 := blk_frozen BK102.out 0; have hfz8_1 := blk_frozen BK102.out 1; have hfz8_2 := blk_frozen BK102.out 2))
      repeat (go_quiet (first | ((with_reducible refine gate_dst (N := 8) rfl ?_); refine bz_ 8 #[.int .i64 0, .string (⟨#[]⟩ : ByteArray), .string (⟨#[]⟩ : ByteArray)] 86 ?_; intro gb102 hg w7 hbox hb; have n0_ := mz (bs0_ hb); have n1_ := mz (hbox); have n2_ := mz ((by rw [hg]; exact bz1_ : w.heap.size ≤ gb102)); have n3_ := mz ((by rw [hg]; exact bz1_ : w.heap.size ≤ gb102)); clear HB; have HB := n0_; have BK102 := n1_; have GW102 := n2_; have GE102 := n3_; clear n0_ n1_ n2_ n3_; clear hb hbox hg; have hcz8_0 := bk_ BK102.out 0 (.int .i64 0); have hcz8_1 := bk_ BK102.out 1 (.string (⟨#[]⟩ : ByteArray)); have hcz8_2 := bk_ BK102.out 2 (.string (⟨#[]⟩ : ByteArray)); have hfz8_0 := blk_frozen BK102.out 0; have hfz8_1 := blk_frozen BK102.out 1; have hfz8_2 := blk_frozen BK102.out 2)); go_upto_region 6 with (first | ((with_reducible refine gate_dst (N := 8) rfl ?_); refine bz_ 8 #[.int .i64 0, .string (⟨#[]⟩ : ByteArray), .string (⟨#[]⟩ : ByteArray)] 86 ?_; intro gb102 hg w7 hbox hb; have n0_ := mz (bs0_ hb); have n1_ := mz (hbox); have n2_ := mz ((by rw [hg]; exact bz1_ : w.heap.size ≤ gb102)); have n3_ := mz ((by rw [hg]; exact bz1_ : w.heap.size ≤ gb102)); clear HB; have HB := n0_; have BK102 := n1_; have GW102 := n2_; have GE102 := n3_; clear n0_ n1_ n2_ n3_; clear hb hbox hg; have hcz8_0 := bk_ BK102.out 0 (.int .i64 0); have hcz8_1 := bk_ BK102.out 1 (.string (⟨#[]⟩ : ByteArray)); have hcz8_2 := bk_ BK102.out 2 (.string (⟨#[]⟩ : ByteArray)); have hfz8_0 := blk_frozen BK102.out 0; have hfz8_1 := blk_frozen BK102.out 1; have hfz8_2 := blk_frozen BK102.out 2)))
      (try simp only [Act.put, List.setIfInBounds_toArray, List.set_cons_zero, List.set_cons_succ])
      go_cut [38] (fun v38 wc => ∃ (kq : Nat) (x38_5 : Bool), v38 = .bool x38_5 ∧ Aside0 (spec_l3Apply.j1 kq x1_1 x6_1 (wrap64 (((rd_T86 l0 x12_1).f0) + (((rd_T86 l0 x12_1).f2).size : Int))) l0 (l0.length : Int) x12_1 x38_5 ((rd_T86 l0 x12_1).f0) ((rd_T86 l0 x12_1).f1) ((rd_T86 l0 x12_1).f2) = some (r1, r2)) ∧ Aside0 (kq ≤ k1) ∧ Aside0 (wc.heap[gb102]? = some (.cells #[.int .i64 ((rd_T86 l0 x12_1).f0), .string ((rd_T86 l0 x12_1).f1), .string ((rd_T86 l0 x12_1).f2)] 86 (0, 0))) ∧ Aside0 (Below w.heap.size w wc))
      case first =>
       have H := HC6.out
       clear HC6
       by_cases c9 : (wrap64 (((rd_T86 l0 x12_1).f0) + (((rd_T86 l0 x12_1).f2).size : Int))) > (x1_1.size : Int)
       ·rw [if_pos c9] at H
        have c9b0 : decide ((x1_1.size : Int) < (wrap64 (((rd_T86 l0 x12_1).f0) + (((rd_T86 l0 x12_1).f2).size : Int)))) = true := decide_eq_true c9
        clear c9
        (first | rw [c9b0] | (simp only [i64_w, i32_w]; rw [c9b0]) | skip)
        have H' := mz H
        clear H
        go_wp2
        repeat (go_quiet (fail); try go_wp2)
        go_meet
        case rel => exact ⟨_, (true), a30_, H', ⟨by have := HK1.out; first | omega | exact Nat.le_refl _⟩, ⟨by (with_reducible repeat (first | refine blk_drewN ?_ _ | refine blk_drew ?_ | refine blk_alloc ?_ _)); refine blk_put (cs := #[.int .i64 ((rd_T86 l0 x12_1).f0), .string ((rd_T86 l0 x12_1).f1), .string (⟨#[]⟩ : ByteArray)]) ?_ 2 _ rfl; (with_reducible repeat (first | refine blk_drewN ?_ _ | refine blk_drew ?_ | refine blk_alloc ?_ _)); refine blk_put (cs := #[.int .i64 ((rd_T86 l0 x12_1).f0), .string (⟨#[]⟩ : ByteArray), .string (⟨#[]⟩ : ByteArray)]) ?_ 1 _ rfl; (with_reducible repeat (first | refine blk_drewN ?_ _ | refine blk_drew ?_ | refine blk_alloc ?_ _)); refine blk_put (cs := #[.int .i64 0, .string (⟨#[]⟩ : ByteArray), .string (⟨#[]⟩ : ByteArray)]) ?_ 0 _ rfl; (with_reducible repeat (first | refine blk_drewN ?_ _ | refine blk_drew ?_ | refine blk_alloc ?_ _)); exact BK102.out⟩, ⟨by repeat (first | (with_reducible first | exact HB.out | apply below_alloc | apply pw_below_drewN | apply below_drew1 | refine below_set ?_ GE102.out) | exact HB.out)⟩⟩
       ·rw [if_neg c9] at H
        have c9b0 : decide ((x1_1.size : Int) < (wrap64 (((rd_T86 l0 x12_1).f0) + (((rd_T86 l0 x12_1).f2).size : Int)))) = false := decide_eq_false c9
        clear c9
        (first | rw [c9b0] | (simp only [i64_w, i32_w]; rw [c9b0]) | skip)
        by_cases c10 : ((rd_T86 l0 x12_1).f2).toList = ([] : List UInt8)
        ·rw [if_pos c10] at H
         have c10b0 : (((rd_T86 l0 x12_1).f2).toList == ([] : List UInt8)) = true := beq_iff_eq.mpr c10
         have c10b1 : (((rd_T86 l0 x12_1).f2).toList != ([] : List UInt8)) = false := bne_eq_false_iff_eq.mpr c10
         clear c10
         have H' := mz H
         clear H
         obtain ⟨hcz11_0, hcz11_1, hcz11_2⟩ := cz3_ BK102.out
         obtain ⟨hfz11_0, hfz11_1, hfz11_2⟩ := fz3_ BK102.out
         go_wp2
         repeat (go_quiet (fail); try go_wp2)
         go_meet
         case rel => exact ⟨_, (false), a30_, H', ⟨by have := HK1.out; first | omega | exact Nat.le_refl _⟩, ⟨by (with_reducible repeat (first | refine blk_drewN ?_ _ | refine blk_drew ?_ | refine blk_alloc ?_ _)); refine blk_put (cs := #[.int .i64 ((rd_T86 l0 x12_1).f0), .string ((rd_T86 l0 x12_1).f1), .string (⟨#[]⟩ : ByteArray)]) ?_ 2 _ rfl; (with_reducible repeat (first | refine blk_drewN ?_ _ | refine blk_drew ?_ | refine blk_alloc ?_ _)); refine blk_put (cs := #[.int .i64 ((rd_T86 l0 x12_1).f0), .string (⟨#[]⟩ : ByteArray), .string (⟨#[]⟩ : ByteArray)]) ?_ 1 _ rfl; (with_reducible repeat (first | refine blk_drewN ?_ _ | refine blk_drew ?_ | refine blk_alloc ?_ _)); refine blk_put (cs := #[.int .i64 0, .string (⟨#[]⟩ : ByteArray), .string (⟨#[]⟩ : ByteArray)]) ?_ 0 _ rfl; (with_reducible repeat (first | refine blk_drewN ?_ _ | refine blk_drew ?_ | refine blk_alloc ?_ _)); exact BK102.out⟩, ⟨by repeat (first | (with_reducible first | exact HB.out | apply below_alloc | apply pw_below_drewN | apply below_drew1 | refine below_set ?_ GE102.out) | exact HB.out)⟩⟩
        ·rw [if_neg c10] at H
         have c10b0 : (((rd_T86 l0 x12_1).f2).toList == ([] : List UInt8)) = false := beq_eq_false_iff_ne.mpr c10
         have c10b1 : (((rd_T86 l0 x12_1).f2).toList != ([] : List UInt8)) = true := bne_iff_ne.mpr c10
         obtain ⟨ji12, hji12⟩ : ∃ j_ : Int, (wrap64 (((rd_T86 l0 x12_1).f0) + (((rd_T86 l0 x12_1).f2).size : Int))) = j_ := ⟨_, rfl⟩
         replace H : (if 0 ≤ (ji12) then (if (ji12) ≤ (x1_1.size : Int) then (spec_l3Apply.j1 k1 x1_1 x6_1 ji12 l0 (l0.length : Int) x12_1 ((x1_1.extract 0 ((ji12) : Int).toNat).toList != ((rd_T86 l0 x12_1).f2).toList) ((rd_T86 l0 x12_1).f0) ((rd_T86 l0 x12_1).f1) ((rd_T86 l0 x12_1).f2)) else (none)) else (none)) = some (r1, r2) := by first | (rw [hji12] at H; exact H) | (simp only [hji12] at H ⊢; exact H)
         (try rw [hji12] at c9b0)
         have hji12w : (IntKind.i64.wrap (((rd_T86 l0 x12_1).f0) + (((rd_T86 l0 x12_1).f2).size : Int))) = ji12 := (i64_w _).trans hji12
         by_cases c13 : 0 ≤ (ji12)
         ·rw [if_pos c13] at H
          have c13b0 := eq_true c13
          have c13b1 : decide (0 ≤ (ji12)) = true := decide_eq_true c13
          clear c13
          by_cases c14 : (ji12) ≤ (x1_1.size : Int)
          ·rw [if_pos c14] at H
           have c14b0 := eq_true c14
           have c14b1 : decide ((ji12) ≤ (x1_1.size : Int)) = true := decide_eq_true c14
           clear c14
           have H' := mz H
           clear H
           obtain ⟨hcz15_0, hcz15_1, hcz15_2⟩ := cz3_ BK102.out
           obtain ⟨hfz15_0, hfz15_1, hfz15_2⟩ := fz3_ BK102.out
           go_wp2
           repeat (go_quiet (fail); try go_wp2)
           go_meet
           case rel => exact ⟨_, (((x1_1.extract 0 ((ji12) : Int).toNat).toList != ((rd_T86 l0 x12_1).f2).toList)), (by first | rfl | (simp; done) | (simp only [← hji12] <;> (first | rfl | simp)) | (simp [*]; done)), (by first | exact H' | (simp only [hji12]; exact H') | (subst hji12; exact H')), ⟨by have := HK1.out; first | omega | exact Nat.le_refl _⟩, ⟨by (with_reducible repeat (first | refine blk_drewN ?_ _ | refine blk_drew ?_ | refine blk_alloc ?_ _)); refine blk_put (cs := #[.int .i64 ((rd_T86 l0 x12_1).f0), .string ((rd_T86 l0 x12_1).f1), .string (⟨#[]⟩ : ByteArray)]) ?_ 2 _ rfl; (with_reducible repeat (first | refine blk_drewN ?_ _ | refine blk_drew ?_ | refine blk_alloc ?_ _)); refine blk_put (cs := #[.int .i64 ((rd_T86 l0 x12_1).f0), .string (⟨#[]⟩ : ByteArray), .string (⟨#[]⟩ : ByteArray)]) ?_ 1 _ rfl; (with_reducible repeat (first | refine blk_drewN ?_ _ | refine blk_drew ?_ | refine blk_alloc ?_ _)); refine blk_put (cs := #[.int .i64 0, .string (⟨#[]⟩ : ByteArray), .string (⟨#[]⟩ : ByteArray)]) ?_ 0 _ rfl; (with_reducible repeat (first | refine blk_drewN ?_ _ | refine blk_drew ?_ | refine blk_alloc ?_ _)); exact BK102.out⟩, ⟨by repeat (first | (with_reducible first | exact HB.out | apply below_alloc | apply pw_below_drewN | apply below_drew1 | refine below_set ?_ GE102.out) | exact HB.out)⟩⟩
          ·rw [if_neg c14] at H
           exact absurd H (by simp)
         ·rw [if_neg c13] at H
          exact absurd H (by simp)
      case rest =>
       clear HC6
       try clear c1
       try clear p1
       try clear q1
       try clear hx1
       try clear p2
       try clear c3
       try clear c3b0
       try clear c4
       try clear c4b0
       try clear c5
       try clear c5b0
       try clear p6
       try clear c9
       try clear c9b0
       try clear c10
       try clear c10b0
       try clear c10b1
       try clear p10
       try clear q10
       try clear hx10
       try clear c13
       try clear c13b0
       try clear c13b1
       try clear c14
       try clear c14b0
       try clear c14b1
       try clear hcz11_0
       try clear hcz11_1
       try clear hcz11_2
       try clear hcz15_0
       try clear hcz15_1
       try clear hcz15_2
       try clear hcz8_0
       try clear hcz8_1
       try clear hcz8_2
       try clear hfz11_0
       try clear hfz11_1
       try clear hfz11_2
       try clear hfz15_0
       try clear hfz15_1
       try clear hfz15_2
       try clear hfz8_0
       try clear hfz8_1
       try clear hfz8_2
       try clear hx101_0
       try clear hx101_1
       try clear hx101_2
       try clear p101
       try clear p2
       try clear q101
       obtain ⟨kq, x38_5, rfl, HA, HJ5, BK102, HB⟩ := hcut
       cases kq with
       | zero => exact absurd HA.out (by simp [spec_l3Apply.j1])
       | succ kj5 =>
        have H := HA.out
        clear HA
        simp only [spec_l3Apply.j1] at H
        by_cases c16 : x38_5 = true
        ·subst c16
         have H1 : (some ((⟨#[]⟩ : ByteArray), false)) = some (r1, r2) := by rw [if_pos rfl] at H; exact H
         clear H
         have H := H1
         clear H1
         simp only [Option.some.injEq, Prod.mk.injEq] at H
         obtain ⟨rfl, rfl⟩ := H
         go_wp2
         repeat (go_quiet (fail); try go_wp2)
         go_ret2
         exact ⟨a27_, a9_⟩
        ·replace c16 := Bool.eq_false_iff.mpr c16
         subst c16
         have H1 : (if ((rd_T86 l0 x12_1).f0) > 0 then (if 0 ≤ (wrap64 (((rd_T86 l0 x12_1).f0) + (((rd_T86 l0 x12_1).f2).size : Int))) then (if (wrap64 (((rd_T86 l0 x12_1).f0) + (((rd_T86 l0 x12_1).f2).size : Int))) ≤ (x1_1.size : Int) then (if x6_1.size + (x1_1.extract 0 ((wrap64 (((rd_T86 l0 x12_1).f0) + (((rd_T86 l0 x12_1).f2).size : Int))) : Int).toNat).size ≤ 9223372036854775807 then (if (x6_1 ++ (x1_1.extract 0 ((wrap64 (((rd_T86 l0 x12_1).f0) + (((rd_T86 l0 x12_1).f2).size : Int))) : Int).toNat)).size + ((rd_T86 l0 x12_1).f1).size ≤ 9223372036854775807 then (spec_l3Apply.l0 kj5 (x1_1.extract ((wrap64 (((rd_T86 l0 x12_1).f0) + (((rd_T86 l0 x12_1).f2).size : Int))) : Int).toNat x1_1.size) ((x6_1 ++ (x1_1.extract 0 ((wrap64 (((rd_T86 l0 x12_1).f0) + (((rd_T86 l0 x12_1).f2).size : Int))) : Int).toNat)) ++ ((rd_T86 l0 x12_1).f1)) l0 (l0.length : Int) (wrap64 (x12_1 + 1))) else (none)) else (none)) else (none)) else (none)) else (if x6_1.size + ((rd_T86 l0 x12_1).f1).size ≤ 9223372036854775807 then (if 0 ≤ (wrap64 (((rd_T86 l0 x12_1).f0) + (((rd_T86 l0 x12_1).f2).size : Int))) then (if (wrap64 (((rd_T86 l0 x12_1).f0) + (((rd_T86 l0 x12_1).f2).size : Int))) ≤ (x1_1.size : Int) then (spec_l3Apply.l0 kj5 (x1_1.extract ((wrap64 (((rd_T86 l0 x12_1).f0) + (((rd_T86 l0 x12_1).f2).size : Int))) : Int).toNat x1_1.size) (x6_1 ++ ((rd_T86 l0 x12_1).f1)) l0 (l0.length : Int) (wrap64 (x12_1 + 1))) else (none)) else (none)) else (none))) = some (r1, r2) := by rw [if_neg (show ¬ (false = true) by decide)] at H; exact H
         clear H
         have H := H1
         clear H1
         by_cases c17 : ((rd_T86 l0 x12_1).f0) > 0
         ·rw [if_pos c17] at H
          have c17b0 : decide (0 < ((rd_T86 l0 x12_1).f0)) = true := decide_eq_true c17
          clear c17
          obtain ⟨ji18, hji18⟩ : ∃ j_ : Int, (wrap64 (((rd_T86 l0 x12_1).f0) + (((rd_T86 l0 x12_1).f2).size : Int))) = j_ := ⟨_, rfl⟩
          replace H : (if 0 ≤ (ji18) then (if (ji18) ≤ (x1_1.size : Int) then (if x6_1.size + (x1_1.extract 0 ((ji18) : Int).toNat).size ≤ 9223372036854775807 then (if (x6_1 ++ (x1_1.extract 0 ((ji18) : Int).toNat)).size + ((rd_T86 l0 x12_1).f1).size ≤ 9223372036854775807 then (spec_l3Apply.l0 kj5 (x1_1.extract ((ji18) : Int).toNat x1_1.size) ((x6_1 ++ (x1_1.extract 0 ((ji18) : Int).toNat)) ++ ((rd_T86 l0 x12_1).f1)) l0 (l0.length : Int) (wrap64 (x12_1 + 1))) else (none)) else (none)) else (none)) else (none)) = some (r1, r2) := by first | (rw [hji18] at H; exact H) | (simp only [hji18] at H ⊢; exact H)
          have hji18w : (IntKind.i64.wrap (((rd_T86 l0 x12_1).f0) + (((rd_T86 l0 x12_1).f2).size : Int))) = ji18 := (i64_w _).trans hji18
          by_cases c19 : 0 ≤ (ji18)
          ·rw [if_pos c19] at H
           have c19b0 := eq_true c19
           have c19b1 : decide (0 ≤ (ji18)) = true := decide_eq_true c19
           clear c19
           by_cases c20 : (ji18) ≤ (x1_1.size : Int)
           ·rw [if_pos c20] at H
            have c20b0 := eq_true c20
            have c20b1 : decide ((ji18) ≤ (x1_1.size : Int)) = true := decide_eq_true c20
            clear c20
            by_cases c21 : x6_1.size + (x1_1.extract 0 ((ji18) : Int).toNat).size ≤ 9223372036854775807
            ·rw [if_pos c21] at H
             have c21b0 := eq_true c21
             have c21b1 : decide (x6_1.size + (x1_1.extract 0 ((ji18) : Int).toNat).size ≤ 9223372036854775807) = true := decide_eq_true c21
             try have c21b2 : (9223372036854775807 < x6_1.size + (x1_1.extract 0 ((ji18) : Int).toNat).size) = False := eq_false (Nat.not_lt.2 c21)
             by_cases c22 : (x6_1 ++ (x1_1.extract 0 ((ji18) : Int).toNat)).size + ((rd_T86 l0 x12_1).f1).size ≤ 9223372036854775807
             ·rw [if_pos c22] at H
              have c22b0 := eq_true c22
              have c22b1 : decide ((x6_1 ++ (x1_1.extract 0 ((ji18) : Int).toNat)).size + ((rd_T86 l0 x12_1).f1).size ≤ 9223372036854775807) = true := decide_eq_true c22
              try have c22b2 : (9223372036854775807 < (x6_1 ++ (x1_1.extract 0 ((ji18) : Int).toNat)).size + ((rd_T86 l0 x12_1).f1).size) = False := eq_false (Nat.not_lt.2 c22)
              try have c22b3 := c22b2
              try simp only [ByteArray.size_append] at c22b3
              have c23b0 := eq_true (of_decide_eq_true a29_ : 0 ≤ (ji18))
              have c24b0 := eq_true (of_decide_eq_true a29_ : (ji18) ≤ (x1_1.size : Int))
              have H' := mz H
              clear H
              obtain ⟨hcz25_0, hcz25_1, hcz25_2⟩ := cz3_ BK102.out
              obtain ⟨hfz25_0, hfz25_1, hfz25_2⟩ := fz3_ BK102.out
              go_wp2
              repeat (go_quiet (fail); try go_wp2)
              go_roundg kj5
              case measure => have := HK1.out; have := HJ5.out; omega
              case rel => exact ⟨(x1_1.extract ((ji18) : Int).toNat x1_1.size), ((x6_1 ++ (x1_1.extract 0 ((ji18) : Int).toNat)) ++ ((rd_T86 l0 x12_1).f1)), (wrap64 (x12_1 + 1)), (by first | rfl | (simp; done) | (simp only [← hji18] <;> (first | rfl | simp)) | (simp [*]; done)), (by first | rfl | (simp; done) | (simp only [← hji18] <;> (first | rfl | simp)) | (simp [*]; done)), a30_, (by first | exact H' | (simp only [hji18]; exact H') | (subst hji18; exact H')), ⟨by have := HK1.out; have := HJ5.out; omega⟩, ⟨by repeat (first | (with_reducible first | exact HB.out | apply below_alloc | apply pw_below_drewN | apply below_drew1 | refine below_set ?_ GE102.out) | exact HB.out)⟩⟩
             ·rw [if_neg c22] at H
              exact absurd H (by simp)
            ·rw [if_neg c21] at H
             exact absurd H (by simp)
           ·rw [if_neg c20] at H
            exact absurd H (by simp)
          ·rw [if_neg c19] at H
           exact absurd H (by simp)
         ·rw [if_neg c17] at H
          have c17b0 : decide (0 < ((rd_T86 l0 x12_1).f0)) = false := decide_eq_false c17
          clear c17
          by_cases c26 : x6_1.size + ((rd_T86 l0 x12_1).f1).size ≤ 9223372036854775807
          ·rw [if_pos c26] at H
           have c26b0 := eq_true c26
           have c26b1 : decide (x6_1.size + ((rd_T86 l0 x12_1).f1).size ≤ 9223372036854775807) = true := decide_eq_true c26
           try have c26b2 : (9223372036854775807 < x6_1.size + ((rd_T86 l0 x12_1).f1).size) = False := eq_false (Nat.not_lt.2 c26)
           obtain ⟨ji27, hji27⟩ : ∃ j_ : Int, (wrap64 (((rd_T86 l0 x12_1).f0) + (((rd_T86 l0 x12_1).f2).size : Int))) = j_ := ⟨_, rfl⟩
           replace H : (if 0 ≤ (ji27) then (if (ji27) ≤ (x1_1.size : Int) then (spec_l3Apply.l0 kj5 (x1_1.extract ((ji27) : Int).toNat x1_1.size) (x6_1 ++ ((rd_T86 l0 x12_1).f1)) l0 (l0.length : Int) (wrap64 (x12_1 + 1))) else (none)) else (none)) = some (r1, r2) := by first | (rw [hji27] at H; exact H) | (simp only [hji27] at H ⊢; exact H)
           have hji27w : (IntKind.i64.wrap (((rd_T86 l0 x12_1).f0) + (((rd_T86 l0 x12_1).f2).size : Int))) = ji27 := (i64_w _).trans hji27
           by_cases c28 : 0 ≤ (ji27)
           ·rw [if_pos c28] at H
            have c28b0 := eq_true c28
            have c28b1 : decide (0 ≤ (ji27)) = true := decide_eq_true c28
            clear c28
            by_cases c29 : (ji27) ≤ (x1_1.size : Int)
            ·rw [if_pos c29] at H
             have c29b0 := eq_true c29
             have c29b1 : decide ((ji27) ≤ (x1_1.size : Int)) = true := decide_eq_true c29
             clear c29
             have H' := mz H
             clear H
             obtain ⟨hcz30_0, hcz30_1, hcz30_2⟩ := cz3_ BK102.out
             obtain ⟨hfz30_0, hfz30_1, hfz30_2⟩ := fz3_ BK102.out
             go_wp2
             repeat (go_quiet (fail); try go_wp2)
             go_roundg kj5
             case measure => have := HK1.out; have := HJ5.out; omega
             case rel => exact ⟨(x1_1.extract ((ji27) : Int).toNat x1_1.size), (x6_1 ++ ((rd_T86 l0 x12_1).f1)), (wrap64 (x12_1 + 1)), (by first | rfl | (simp; done) | (simp only [← hji27] <;> (first | rfl | simp)) | (simp [*]; done)), a30_, a30_, (by first | exact H' | (simp only [hji27]; exact H') | (subst hji27; exact H')), ⟨by have := HK1.out; have := HJ5.out; omega⟩, ⟨by repeat (first | (with_reducible first | exact HB.out | apply below_alloc | apply pw_below_drewN | apply below_drew1 | refine below_set ?_ GE102.out) | exact HB.out)⟩⟩
            ·rw [if_neg c29] at H
             exact absurd H (by simp)
           ·rw [if_neg c28] at H
            exact absurd H (by simp)
          ·rw [if_neg c26] at H
           exact absurd H (by simp)
     ·rw [if_neg c5] at H
      exact absurd H (by simp)
    ·rw [if_neg c4] at H
     exact absurd H (by simp)
   ·rw [if_neg c3] at H
    have c3b0 : decide (x12_1 < (l0.length : Int)) = false := decide_eq_false c3
    clear c3
    simp only [Option.some.injEq, Prod.mk.injEq] at H
    obtain ⟨rfl, rfl⟩ := H
    go_wp2
    repeat (go_quiet (fail); try go_wp2)
    go_ret2
    exact ⟨a27_, a12_⟩
end
section
attribute [local go_sem] max2_int min2_int max_two min_two max_three min_three max_four min_four
def spec_l3Sizes.l0 : Nat → Int → Int → List (S86) → Int → Int → Option (Int × Int)
 | 0, _, _, _, _, _ => none
 | k + 1, x4, x5, x8, x9, x10 => if x10 < x9 then (if 0 ≤ x10 then (if x10 < (x8.length : Int) then (spec_l3Sizes.l0 k (wrap64 (x4 + (wrap64 (((rd_T86 x8 x10).f0) + (((rd_T86 x8 x10).f2).size : Int))))) (wrap64 (x5 + (wrap64 (((rd_T86 x8 x10).f0) + (((rd_T86 x8 x10).f1).size : Int))))) x8 x9 (wrap64 (x10 + 1))) else (none)) else (none)) else (some (x4, x5))
def spec_l3Sizes.f (k : Nat) (l0 : List (S86)) : Option (Int × Int) := spec_l3Sizes.l0 k 0 0 l0 (l0.length : Int) 0
set_option maxHeartbeats 8000000 in
set_option maxRecDepth 100000 in
theorem spec_l3Sizes.calls (k : Nat) (A0 : Option Addr) (c0 : Nat) (l0 : List (S86)) (r1 : Int) (r2 : Int) (w : World) (hr0 : Kd.C k86 w A0 l0.length l0) (hc0 : l0.length ≤ c0) (h : spec_l3Sizes.f k l0 = some (r1, r2)) :
  Calls Try.prog 98 #[.slice A0 l0.length c0] w fun e w' => e = .returned (.tuple #[.int .i64 r1, .int .i64 r2]) ∧ Below w.heap.size w w' := by
 have hu86 := Try.underlying86
 have HR0 := mz hr0
 have HC0 := mz hc0
 clear hr0 hc0
 have HB := mz (Below.refl w.heap.size w)
 have H : (spec_l3Sizes.l0 k 0 0 l0 (l0.length : Int) 0) = some (r1, r2) := h
 clear h
 have H' := mz H
 clear H
 go_enter Try.func98, Try.ntmps98
 go_wp2
 go_loopg [4, 5, 10] k (fun kq v4 v5 v10 w' => ∃ (x4_1 : Int) (x5_1 : Int) (x10_1 : Int), v4 = .int .i64 x4_1 ∧ v5 = .int .i64 x5_1 ∧ v10 = .int .i64 x10_1 ∧ Aside0 (spec_l3Sizes.l0 kq x4_1 x5_1 l0 (l0.length : Int) x10_1 = some (r1, r2)) ∧ Aside0 (kq ≤ k) ∧ Aside0 (Below w.heap.size w w'))
 case atStart => exact ⟨(0), (0), (0), a30_, a30_, a30_, H', ⟨Nat.le_refl _⟩, ⟨by repeat (first | (with_reducible first | exact HB.out | apply below_alloc | apply pw_below_drewN | apply below_drew1) | exact HB.out)⟩⟩
 case round =>
  clear H'
  obtain ⟨x4_1, x5_1, x10_1, rfl, rfl, rfl, HA, HK1, HB⟩ := hrel
  cases gk with
  | zero => exact absurd HA.out (by simp [spec_l3Sizes.l0])
  | succ k1 =>
   have H := HA.out
   clear HA
   simp only [spec_l3Sizes.l0] at H
   by_cases c2 : x10_1 < (l0.length : Int)
   ·rw [if_pos c2] at H
    have c2b0 : decide (x10_1 < (l0.length : Int)) = true := decide_eq_true c2
    clear c2
    by_cases c3 : 0 ≤ x10_1
    ·rw [if_pos c3] at H
     have c3b0 : decide (0 ≤ x10_1) = true := decide_eq_true c3
     clear c3
     by_cases c4 : x10_1 < (l0.length : Int)
     ·rw [if_pos c4] at H
      have c4b0 : decide (x10_1 < (l0.length : Int)) = true := decide_eq_true c4
      clear c4
      have H' := mz H
      clear H
      have p101 : 0 ≤ (x10_1 : Int) := of_decide_eq_true a29_
      have q101 : x10_1 < (l0.length : Int) := of_decide_eq_true a29_
      obtain ⟨ad101, e101, hx101_0, hx101_1, hx101_2⟩ := at_T86 HR0.out x10_1 p101 q101
      cases e101
      replace hx101_0 := bc_ HB.out hx101_0
      replace hx101_1 := bc_ HB.out hx101_1
      replace hx101_2 := bc_ HB.out hx101_2
      replace p101 := eq_true p101
      replace q101 := eq_true q101
      go_wp2_with (first | ((with_reducible refine gate_dst (N := 7) rfl ?_); refine bz_ 7 #[.int .i64 0, .string (⟨#[]⟩ : ByteArray), .string (⟨#[]⟩ : ByteArray)] 86 ?_; intro gb102 hg w5 hbox hb; have n0_ := mz (bs0_ hb); have n1_ := mz (hbox); have n2_ := mz ((by rw [hg]; exact bz1_ : w.heap.size ≤ gb102)); have n3_ := mz ((by rw [hg]; exact bz1_ : w.heap.size ≤ gb102)); clear HB; have HB := n0_; have BK102 := n1_; have GW102 := n2_; have GE102 := n3_; clear n0_ n1_ n2_ n3_; clear hb hbox hg; have hcz6_0 := bk_ BK102.out 0 (.int .i64 0); have hcz6_1 := bk_ BK102.out 1 (.string (⟨#[]⟩ : ByteArray)); have hcz6_2 := bk_ BK102.out 2 (.string (⟨#[]⟩ : ByteArray)); have hfz6_0 := blk_frozen BK102.out 0; have hfz6_1 := blk_frozen BK102.out 1; have hfz6_2 := blk_frozen BK102.out 2))
      go_roundg k1
      case measure => have := HK1.out; omega
      case rel => exact ⟨(wrap64 (x4_1 + (wrap64 (((rd_T86 l0 x10_1).f0) + (((rd_T86 l0 x10_1).f2).size : Int))))), (wrap64 (x5_1 + (wrap64 (((rd_T86 l0 x10_1).f0) + (((rd_T86 l0 x10_1).f1).size : Int))))), (wrap64 (x10_1 + 1)), a30_, a30_, a30_, H', ⟨by have := HK1.out; omega⟩, ⟨by repeat (first | (with_reducible first | exact HB.out | apply below_alloc | apply pw_below_drewN | apply below_drew1 | refine below_set ?_ GE102.out) | exact HB.out)⟩⟩
     ·rw [if_neg c4] at H
      exact absurd H (by simp)
    ·rw [if_neg c3] at H
     exact absurd H (by simp)
   ·rw [if_neg c2] at H
    have c2b0 : decide (x10_1 < (l0.length : Int)) = false := decide_eq_false c2
    clear c2
    simp only [Option.some.injEq, Prod.mk.injEq] at H
    obtain ⟨rfl, rfl⟩ := H
    go_wp2
    go_ret2
    exact ⟨a27_, a12_⟩
end
section
attribute [local go_sem] max2_int min2_int max_two min_two max_three min_three max_four min_four
def spec_GoodOp.l0 : Nat → List (S86) → List (S86) → Int → Int → Option (Bool)
 | 0, _, _, _, _ => none
 | k + 1, x0, x10, x11, x12 => if x12 < x11 then (if 0 ≤ x12 then (if x12 < (x10.length : Int) then ((spec_l3Part.f k ((rd_T86 x10 x12).f0) ((rd_T86 x10 x12).f1) ((rd_T86 x10 x12).f2)).bind fun t103 => (if t103 = true then (spec_GoodOp.l0 k x0 x10 x11 (wrap64 (x12 + 1))) else (some false))) else (none)) else (none)) else ((spec_l3Sizes.f k x0).bind fun bt104 => (if bt104.1 ≤ 300 then (some (decide (bt104.2 ≤ 300))) else (some false)))
def spec_GoodOp.f (k : Nat) (l0 : List (S86)) : Option (Bool) := if (l0.length : Int) > 60 then (some false) else (spec_GoodOp.l0 k l0 l0 (l0.length : Int) 0)
set_option maxHeartbeats 8000000 in
set_option maxRecDepth 100000 in
theorem spec_GoodOp.calls (k : Nat) (A0 : Option Addr) (c0 : Nat) (l0 : List (S86)) (r : Bool) (w : World) (hr0 : Kd.C k86 w A0 l0.length l0) (hc0 : l0.length ≤ c0) (h : spec_GoodOp.f k l0 = some r) :
  Calls Try.prog 44 #[.slice A0 l0.length c0] w fun e w' => e = .returned (.bool r) ∧ Below w.heap.size w w' := by
 have hu86 := Try.underlying86
 have HR0 := mz hr0
 have HC0 := mz hc0
 clear hr0 hc0
 have HB := mz (Below.refl w.heap.size w)
 have H : (if (l0.length : Int) > 60 then (some false) else (spec_GoodOp.l0 k l0 l0 (l0.length : Int) 0)) = some r := h
 clear h
 by_cases c2 : (l0.length : Int) > 60
 ·rw [if_pos c2] at H
  have c2b0 : decide (60 < (l0.length : Int)) = true := decide_eq_true c2
  have c2b1 : decide (60 < l0.length) = true := decide_eq_true (by omega)
  clear c2
  obtain rfl := Option.some.inj H
  go_enter Try.func44, Try.ntmps44
  go_wp2
  go_ret
  exact ⟨a27_, a12_⟩
 ·rw [if_neg c2] at H
  have c2b0 : decide (60 < (l0.length : Int)) = false := decide_eq_false c2
  have c2b1 : decide (60 < l0.length) = false := decide_eq_false (by omega)
  clear c2
  have H' := mz H
  clear H
  go_enter Try.func44, Try.ntmps44
  go_wp2
  go_loopg [12] k (fun kq v12 w' => ∃ (x12_1 : Int), v12 = .int .i64 x12_1 ∧ Aside0 (spec_GoodOp.l0 kq l0 l0 (l0.length : Int) x12_1 = some r) ∧ Aside0 (kq ≤ k) ∧ Aside0 (Below w.heap.size w w'))
  case atStart => exact ⟨(0), a30_, H', ⟨Nat.le_refl _⟩, ⟨by repeat (first | (with_reducible first | exact HB.out | apply below_alloc | apply pw_below_drewN | apply below_drew1) | exact HB.out)⟩⟩
  case round =>
   clear H'
   try clear c2
   try clear c2b0
   try clear c2b1
   try clear p2
   obtain ⟨x12_1, rfl, HA, HK1, HB⟩ := hrel
   cases gk with
   | zero => exact absurd HA.out (by simp [spec_GoodOp.l0])
   | succ k1 =>
    have H := HA.out
    clear HA
    simp only [spec_GoodOp.l0] at H
    by_cases c3 : x12_1 < (l0.length : Int)
    ·rw [if_pos c3] at H
     have c3b0 : decide (x12_1 < (l0.length : Int)) = true := decide_eq_true c3
     clear c3
     by_cases c4 : 0 ≤ x12_1
     ·rw [if_pos c4] at H
      have c4b0 : decide (0 ≤ x12_1) = true := decide_eq_true c4
      clear c4
      by_cases c5 : x12_1 < (l0.length : Int)
      ·rw [if_pos c5] at H
       have c5b0 : decide (x12_1 < (l0.length : Int)) = true := decide_eq_true c5
       clear c5
       replace H := be0_ H
       obtain ⟨t103, A60, H⟩ := H
       replace H : (if t103 = true then (spec_GoodOp.l0 k1 l0 l0 (l0.length : Int) (wrap64 (x12_1 + 1))) else (some false)) = some r := H
       have A6 := mz A60
       clear A60
       by_cases c7 : t103 = true
       ·subst c7
        have H1 : (spec_GoodOp.l0 k1 l0 l0 (l0.length : Int) (wrap64 (x12_1 + 1))) = some r := by rw [if_pos rfl] at H; exact H
        clear H
        have H := H1
        clear H1
        have H' := mz H
        clear H
        have p101 : 0 ≤ (x12_1 : Int) := of_decide_eq_true a29_
        have q101 : x12_1 < (l0.length : Int) := of_decide_eq_true a29_
        obtain ⟨ad101, e101, hx101_0, hx101_1, hx101_2⟩ := at_T86 HR0.out x12_1 p101 q101
        cases e101
        replace hx101_0 := bc_ HB.out hx101_0
        replace hx101_1 := bc_ HB.out hx101_1
        replace hx101_2 := bc_ HB.out hx101_2
        replace p101 := eq_true p101
        replace q101 := eq_true q101
        go_wp2_with (first | ((with_reducible refine gate_dst (N := 4) rfl ?_); refine bz_ 4 #[.int .i64 0, .string (⟨#[]⟩ : ByteArray), .string (⟨#[]⟩ : ByteArray)] 86 ?_; intro gb102 hg w8 hbox hb; have n0_ := mz (bs0_ hb); have n1_ := mz (hbox); have n2_ := mz ((by rw [hg]; exact bz1_ : w.heap.size ≤ gb102)); have n3_ := mz ((by rw [hg]; exact bz1_ : w.heap.size ≤ gb102)); clear HB; have HB := n0_; have BK102 := n1_; have GW102 := n2_; have GE102 := n3_; clear n0_ n1_ n2_ n3_; clear hb hbox hg; have hcz9_0 := bk_ BK102.out 0 (.int .i64 0); have hcz9_1 := bk_ BK102.out 1 (.string (⟨#[]⟩ : ByteArray)); have hcz9_2 := bk_ BK102.out 2 (.string (⟨#[]⟩ : ByteArray)); have hfz9_0 := blk_frozen BK102.out 0; have hfz9_1 := blk_frozen BK102.out 1; have hfz9_2 := blk_frozen BK102.out 2) | ((with_reducible refine gate_callee (f := 97) rfl ?_); refine goesL_ (some 17) rfl rfl Try.func97 (by kernel_rfl) rfl #[.agg #[.int .i64 ((rd_T86 l0 x12_1).f0), .string ((rd_T86 l0 x12_1).f1), .string ((rd_T86 l0 x12_1).f2)]] rfl a11_ ?_; (with_reducible refine (spec_l3Part.calls k1 ((rd_T86 l0 x12_1).f0) ((rd_T86 l0 x12_1).f1) ((rd_T86 l0 x12_1).f2) true _ A6.out).mono ?_); rintro e w10 ⟨rfl, hb⟩; refine ⟨_, rfl, ?_⟩; have n0_ := mz (blk_below (g := gb102) (o := .cells #[.int .i64 ((rd_T86 l0 x12_1).f0), .string ((rd_T86 l0 x12_1).f1), .string ((rd_T86 l0 x12_1).f2)] 86 (0, 0)) (by (with_reducible repeat (first | refine blk_drewN ?_ _ | refine blk_drew ?_ | refine blk_alloc ?_ _)); refine blk_put (cs := #[.int .i64 ((rd_T86 l0 x12_1).f0), .string ((rd_T86 l0 x12_1).f1), .string (⟨#[]⟩ : ByteArray)]) ?_ 2 _ rfl; (with_reducible repeat (first | refine blk_drewN ?_ _ | refine blk_drew ?_ | refine blk_alloc ?_ _)); refine blk_put (cs := #[.int .i64 ((rd_T86 l0 x12_1).f0), .string (⟨#[]⟩ : ByteArray), .string (⟨#[]⟩ : ByteArray)]) ?_ 1 _ rfl; (with_reducible repeat (first | refine blk_drewN ?_ _ | refine blk_drew ?_ | refine blk_alloc ?_ _)); refine blk_put (cs := #[.int .i64 0, .string (⟨#[]⟩ : ByteArray), .string (⟨#[]⟩ : ByteArray)]) ?_ 0 _ rfl; (with_reducible repeat (first | refine blk_drewN ?_ _ | refine blk_drew ?_ | refine blk_alloc ?_ _)); exact BK102.out) hb); have n1_ := mz (bs3_ hb); clear BK102; clear HB; have BK102 := n0_; have HB := n1_; clear n0_ n1_; (try clear hb); (try clear hb2); (try clear hk); (try clear hi)))
        go_roundg k1
        case measure => have := HK1.out; omega
        case rel => exact ⟨(wrap64 (x12_1 + 1)), a30_, H', ⟨by have := HK1.out; omega⟩, ⟨by repeat (first | (with_reducible first | exact HB.out | apply below_alloc | apply pw_below_drewN | apply below_drew1 | refine below_set ?_ GE102.out) | exact HB.out)⟩⟩
       ·replace c7 := Bool.eq_false_iff.mpr c7
        subst c7
        have H1 : (some false) = some r := by rw [if_neg (show ¬ (false = true) by decide)] at H; exact H
        clear H
        have H := H1
        clear H1
        obtain rfl := Option.some.inj H
        have p101 : 0 ≤ (x12_1 : Int) := of_decide_eq_true a29_
        have q101 : x12_1 < (l0.length : Int) := of_decide_eq_true a29_
        obtain ⟨ad101, e101, hx101_0, hx101_1, hx101_2⟩ := at_T86 HR0.out x12_1 p101 q101
        cases e101
        replace hx101_0 := bc_ HB.out hx101_0
        replace hx101_1 := bc_ HB.out hx101_1
        replace hx101_2 := bc_ HB.out hx101_2
        replace p101 := eq_true p101
        replace q101 := eq_true q101
        go_wp2_with (first | ((with_reducible refine gate_dst (N := 4) rfl ?_); refine bz_ 4 #[.int .i64 0, .string (⟨#[]⟩ : ByteArray), .string (⟨#[]⟩ : ByteArray)] 86 ?_; intro gb102 hg w11 hbox hb; have n0_ := mz (bs0_ hb); have n1_ := mz (hbox); have n2_ := mz ((by rw [hg]; exact bz1_ : w.heap.size ≤ gb102)); have n3_ := mz ((by rw [hg]; exact bz1_ : w.heap.size ≤ gb102)); clear HB; have HB := n0_; have BK102 := n1_; have GW102 := n2_; have GE102 := n3_; clear n0_ n1_ n2_ n3_; clear hb hbox hg; have hcz12_0 := bk_ BK102.out 0 (.int .i64 0); have hcz12_1 := bk_ BK102.out 1 (.string (⟨#[]⟩ : ByteArray)); have hcz12_2 := bk_ BK102.out 2 (.string (⟨#[]⟩ : ByteArray)); have hfz12_0 := blk_frozen BK102.out 0; have hfz12_1 := blk_frozen BK102.out 1; have hfz12_2 := blk_frozen BK102.out 2) | ((with_reducible refine gate_callee (f := 97) rfl ?_); refine goesL_ (some 17) rfl rfl Try.func97 (by kernel_rfl) rfl #[.agg #[.int .i64 ((rd_T86 l0 x12_1).f0), .string ((rd_T86 l0 x12_1).f1), .string ((rd_T86 l0 x12_1).f2)]] rfl a11_ ?_; (with_reducible refine (spec_l3Part.calls k1 ((rd_T86 l0 x12_1).f0) ((rd_T86 l0 x12_1).f1) ((rd_T86 l0 x12_1).f2) false _ A6.out).mono ?_); rintro e w13 ⟨rfl, hb⟩; refine ⟨_, rfl, ?_⟩; have n0_ := mz (blk_below (g := gb102) (o := .cells #[.int .i64 ((rd_T86 l0 x12_1).f0), .string ((rd_T86 l0 x12_1).f1), .string ((rd_T86 l0 x12_1).f2)] 86 (0, 0)) (by (with_reducible repeat (first | refine blk_drewN ?_ _ | refine blk_drew ?_ | refine blk_alloc ?_ _)); refine blk_put (cs := #[.int .i64 ((rd_T86 l0 x12_1).f0), .string ((rd_T86 l0 x12_1).f1), .string (⟨#[]⟩ : ByteArray)]) ?_ 2 _ rfl; (with_reducible repeat (first | refine blk_drewN ?_ _ | refine blk_drew ?_ | refine blk_alloc ?_ _)); refine blk_put (cs := #[.int .i64 ((rd_T86 l0 x12_1).f0), .string (⟨#[]⟩ : ByteArray), .string (⟨#[]⟩ : ByteArray)]) ?_ 1 _ rfl; (with_reducible repeat (first | refine blk_drewN ?_ _ | refine blk_drew ?_ | refine blk_alloc ?_ _)); refine blk_put (cs := #[.int .i64 0, .string (⟨#[]⟩ : ByteArray), .string (⟨#[]⟩ : ByteArray)]) ?_ 0 _ rfl; (with_reducible repeat (first | refine blk_drewN ?_ _ | refine blk_drew ?_ | refine blk_alloc ?_ _)); exact BK102.out) hb); have n1_ := mz (bs3_ hb); clear BK102; clear HB; have BK102 := n0_; have HB := n1_; clear n0_ n1_; (try clear hb); (try clear hb2); (try clear hk); (try clear hi)))
        go_ret
        exact ⟨a27_, a9_⟩
      ·rw [if_neg c5] at H
       exact absurd H (by simp)
     ·rw [if_neg c4] at H
      exact absurd H (by simp)
    ·rw [if_neg c3] at H
     have c3b0 : decide (x12_1 < (l0.length : Int)) = false := decide_eq_false c3
     clear c3
     replace H := be0_ H
     obtain ⟨⟨t104, t105⟩, A140, H⟩ := H
     replace H : (if t104 ≤ 300 then (some (decide (t105 ≤ 300))) else (some false)) = some r := H
     have A14 := mz A140
     clear A140
     by_cases c15 : t104 ≤ 300
     ·rw [if_pos c15] at H
      have c15b0 : decide (t104 ≤ 300) = true := decide_eq_true c15
      clear c15
      obtain rfl := Option.some.inj H
      go_wp2_with (first | ((with_reducible refine gate_callee (f := 98) rfl ?_); refine goesL_ (some 22) rfl rfl Try.func98 (by kernel_rfl) rfl #[.slice A0 l0.length c0] rfl a11_ ?_; (with_reducible refine (spec_l3Sizes.calls k1 _ _ l0 t104 t105 _ ?side1 ?side2 A14.out).mono ?_); (case side1 => repeat (first | exact (Kd.C_below HR0.out HB.out) | (with_reducible refine Kd.C_alloc ?_ _) | (with_reducible refine Kd.C_drewN ?_ _) | (with_reducible refine Kd.C_drew ?_))); (case side2 => exact HC0.out); rintro e w16 ⟨rfl, hb⟩; refine ⟨_, rfl, ?_⟩; have n0_ := mz (bs0_ hb); clear HB; have HB := n0_; clear n0_; (try clear hb); (try clear hb2); (try clear hk); (try clear hi)))
      go_ret
      exact ⟨a27_, a12_⟩
     ·rw [if_neg c15] at H
      have c15b0 : decide (t104 ≤ 300) = false := decide_eq_false c15
      clear c15
      obtain rfl := Option.some.inj H
      go_wp2_with (first | ((with_reducible refine gate_callee (f := 98) rfl ?_); refine goesL_ (some 22) rfl rfl Try.func98 (by kernel_rfl) rfl #[.slice A0 l0.length c0] rfl a11_ ?_; (with_reducible refine (spec_l3Sizes.calls k1 _ _ l0 t104 t105 _ ?side1 ?side2 A14.out).mono ?_); (case side1 => repeat (first | exact (Kd.C_below HR0.out HB.out) | (with_reducible refine Kd.C_alloc ?_ _) | (with_reducible refine Kd.C_drewN ?_ _) | (with_reducible refine Kd.C_drew ?_))); (case side2 => exact HC0.out); rintro e w17 ⟨rfl, hb⟩; refine ⟨_, rfl, ?_⟩; have n0_ := mz (bs0_ hb); clear HB; have HB := n0_; clear n0_; (try clear hb); (try clear hb2); (try clear hk); (try clear hi)))
      go_ret
      exact ⟨a27_, a12_⟩
end
theorem ba_nil {s : ByteArray} (h : s.size = 0) : s = ⟨#[]⟩ := ba_ext (by rw [(toList_nil s).2 h]; simp [ByteArray.toList_eq])
theorem textB_size {s : ByteArray} (h : textB s = true) : s.size ≤ 300 := by simp [textB] at h; exact h.2
theorem textB_bytes {s : ByteArray} (h : textB s = true) : bytesB s = true := by simp [textB] at h; exact h.1
theorem bytesB_nil : bytesB ⟨#[]⟩ = true := by simp [bytesB]
theorem textB_nil : textB ⟨#[]⟩ = true := by
 have e : (⟨#[]⟩ : ByteArray).size = 0 := rfl
 simp only [textB, bytesB_nil, Bool.true_and, decide_eq_true_eq]; omega
theorem bytesB_app {a b : ByteArray} : bytesB (a ++ b) = (bytesB a && bytesB b) := by
 simp [bytesB]
theorem bytesB_cut {a : ByteArray} (i j : Nat) (h : bytesB a = true) : bytesB (a.extract i j) = true := by
 unfold bytesB at *
 rw [List.all_eq_true] at *
 intro c hc
 have hc' : c ∈ List.take (j - i) (List.drop i a.data.toList) := by simpa using hc
 exact h _ (List.mem_of_mem_drop (List.mem_of_mem_take hc'))
theorem partB_cases {p : Part} (h : partB p = true) : 0 ≤ p.f0 ∧ p.f0 ≤ 300 ∧ p.f1.size ≤ 300 ∧ p.f2.size ≤ 300 ∧ (p.f0 ≠ 0 → p.f1 = ⟨#[]⟩ ∧ p.f2 = ⟨#[]⟩) ∧ (p.f1.size ≠ 0 → p.f2 = ⟨#[]⟩) ∧ textB p.f1 = true ∧ textB p.f2 = true := by
 unfold partB at h
 by_cases a : p.f0 = 0
 ·rw [if_pos a] at h
  by_cases b : p.f1.size = 0
  ·rw [if_pos b] at h
   by_cases c : p.f2.size = 0
   ·rw [if_pos c] at h; cases h
   ·rw [if_neg c] at h
    have := textB_size h
    exact ⟨by omega, by omega, by omega, this, fun x => absurd a x, fun x => absurd b x, by rw [ba_nil b]; exact textB_nil, h⟩
  ·rw [if_neg b] at h
   by_cases c : p.f2.size = 0
   ·rw [if_pos c] at h
    have := textB_size h
    exact ⟨by omega, by omega, this, by omega, fun x => absurd a x, fun _ => ba_nil c, h, by rw [ba_nil c]; exact textB_nil⟩
   ·rw [if_neg c] at h; cases h
 ·rw [if_neg a] at h
  simp only [Bool.and_eq_true, decide_eq_true_eq] at h
  obtain ⟨⟨⟨h1, h2⟩, h3⟩, h4⟩ := h
  exact ⟨by omega, h2, by omega, by omega, fun _ => ⟨ba_nil h3, ba_nil h4⟩, fun x => absurd h3 x, by rw [ba_nil h3]; exact textB_nil, by rw [ba_nil h4]; exact textB_nil⟩

def takesN (l : List Part) : Nat := (l.map fun p => p.f0.toNat + p.f2.size).sum
def makesN (l : List Part) : Nat := (l.map fun p => p.f0.toNat + p.f1.size).sum
theorem takesN_cons (p : Part) (l : List Part) : takesN (p :: l) = p.f0.toNat + p.f2.size + takesN l := rfl
theorem makesN_cons (p : Part) (l : List Part) : makesN (p :: l) = p.f0.toNat + p.f1.size + makesN l := rfl
def opB (l : List Part) : Bool := decide (l.length ≤ 60) && l.all partB && decide (takesN l ≤ 300) && decide (makesN l ≤ 300)
theorem opB_of {l : List Part} (h : opB l = true) : l.length ≤ 60 ∧ (∀ p ∈ l, partB p = true) ∧ takesN l ≤ 300 ∧ makesN l ≤ 300 := by
 simp only [opB, Bool.and_eq_true, decide_eq_true_eq, List.all_eq_true] at h
 exact ⟨h.1.1.1, h.1.1.2, h.1.2, h.2⟩
theorem implSizes_loop (l : List Part) (hl : l.length ≤ 60) (hp : ∀ p ∈ l, partB p = true) (d : Nat) : ∀ (i : Nat) (a b : Int), i + d = l.length → 0 ≤ a → a ≤ 600 * i → 0 ≤ b → b ≤ 600 * i →
  Ev (fun k => impl_sizes.l0 k a b l (l.length : Int) (i : Int)) (a + (takesN (l.drop i) : Int), b + (makesN (l.drop i) : Int)) := by
 induction d with
 | zero =>
  intro i a b h _ _ _ _
  refine Ev.succ ?_
  simp only [impl_sizes.l0, if_neg (show ¬ ((i : Int) < (l.length : Int)) by omega)]
  rw [List.drop_eq_nil_of_le (by omega)]
  refine ev_eq (Ev.now _) ?_
  simp [takesN, makesN]
 | succ d ih =>
  intro i a b h a0 a1 b0 b1
  have hi : i < l.length := by omega
  have e : l.drop i = l[i] :: l.drop (i + 1) := List.drop_eq_getElem_cons hi
  obtain ⟨p0, p1, p2, p3, _⟩ := partB_cases (hp l[i] (List.getElem_mem hi))
  refine Ev.succ ?_
  simp only [impl_sizes.l0, if_pos (show ((i : Int) < (l.length : Int)) by omega), if_pos (show (0 : Int) ≤ i by omega), rd_part l i hi]
  rw [e, takesN_cons, makesN_cons]
  generalize l[i] = p at *
  rw [w64 (n := p.f0 + (p.f2.size : Int)) (by omega) (by omega), w64 (n := p.f0 + (p.f1.size : Int)) (by omega) (by omega), w64 (n := a + (p.f0 + (p.f2.size : Int))) (by omega) (by omega), w64 (n := b + (p.f0 + (p.f1.size : Int))) (by omega) (by omega), w64 (n := (i : Int) + 1) (by omega) (by omega)]
  refine ev_eq (ih (i + 1) _ _ (by omega) (by omega) (by omega) (by omega) (by omega)) ?_
  simp only [Prod.mk.injEq]
  constructor <;> push_cast <;> omega
theorem implSizes_ev (l : List Part) (hl : l.length ≤ 60) (hp : ∀ p ∈ l, partB p = true) : Ev (fun k => impl_sizes.f k l) ((takesN l : Int), (makesN l : Int)) := by
 have := implSizes_loop l hl hp l.length 0 0 0 (by omega) (by omega) (by omega) (by omega) (by omega)
 simpa [impl_sizes.f] using this

theorem specSizes_loop (l : List Part) (hl : l.length ≤ 60) (hp : ∀ p ∈ l, partB p = true) (d : Nat) : ∀ (i : Nat) (a b : Int), i + d = l.length → 0 ≤ a → a ≤ 600 * i → 0 ≤ b → b ≤ 600 * i →
  Ev (fun k => spec_l3Sizes.l0 k a b l (l.length : Int) (i : Int)) (a + (takesN (l.drop i) : Int), b + (makesN (l.drop i) : Int)) := by
 induction d with
 | zero =>
  intro i a b h _ _ _ _
  refine Ev.succ ?_
  simp only [spec_l3Sizes.l0, if_neg (show ¬ ((i : Int) < (l.length : Int)) by omega)]
  rw [List.drop_eq_nil_of_le (by omega)]
  refine ev_eq (Ev.now _) ?_
  simp [takesN, makesN]
 | succ d ih =>
  intro i a b h a0 a1 b0 b1
  have hi : i < l.length := by omega
  have e : l.drop i = l[i] :: l.drop (i + 1) := List.drop_eq_getElem_cons hi
  obtain ⟨p0, p1, p2, p3, _⟩ := partB_cases (hp l[i] (List.getElem_mem hi))
  refine Ev.succ ?_
  simp only [spec_l3Sizes.l0, if_pos (show ((i : Int) < (l.length : Int)) by omega), if_pos (show (0 : Int) ≤ i by omega), rd_part l i hi]
  rw [e, takesN_cons, makesN_cons]
  generalize l[i] = p at *
  rw [w64 (n := p.f0 + (p.f2.size : Int)) (by omega) (by omega), w64 (n := p.f0 + (p.f1.size : Int)) (by omega) (by omega), w64 (n := a + (p.f0 + (p.f2.size : Int))) (by omega) (by omega), w64 (n := b + (p.f0 + (p.f1.size : Int))) (by omega) (by omega), w64 (n := (i : Int) + 1) (by omega) (by omega)]
  refine ev_eq (ih (i + 1) _ _ (by omega) (by omega) (by omega) (by omega) (by omega)) ?_
  simp only [Prod.mk.injEq]
  constructor <;> push_cast <;> omega
theorem specSizes_ev (l : List Part) (hl : l.length ≤ 60) (hp : ∀ p ∈ l, partB p = true) : Ev (fun k => spec_l3Sizes.f k l) ((takesN l : Int), (makesN l : Int)) := by
 have := specSizes_loop l hl hp l.length 0 0 0 (by omega) (by omega) (by omega) (by omega) (by omega)
 simpa [spec_l3Sizes.f] using this

theorem any_not_partB (l : List Part) : (l.any fun p => !partB p) = !l.all partB := by
 induction l with
 | nil => rfl
 | cons p l ih => simp only [List.any_cons, List.all_cons, ih]; cases partB p <;> simp
theorem implGoodOp_ev (l : List Part) (hs : sizedP l = true) : Ev (fun k => impl_GoodOp.f k l) (opB l) := by
 unfold impl_GoodOp.f opB
 by_cases a : l.length ≤ 60
 ·simp only [if_neg (show ¬ (l.length : Int) > 60 by omega), slices_ContainsFunc_impl_Part_impl_Part_impl_GoodOp_1.f, if_pos hs, Option.bind_some, any_not_partB, decide_eq_true a, Bool.true_and]
  cases b : l.all partB with
  | false => simp only [Bool.not_false, if_true, Bool.false_and]; exact Ev.now _
  | true =>
   simp only [Bool.not_true, Bool.false_eq_true, if_false, Bool.true_and]
   refine Ev.bind (implSizes_ev l a (List.all_eq_true.1 b)) ?_
   by_cases c : takesN l ≤ 300
   ·simp only [if_pos (show (takesN l : Int) ≤ 300 by omega), decide_eq_true c, Bool.true_and]
    refine ev_eq (Ev.now _) ?_
    rw [Bool.eq_iff_iff]; simp; omega
   ·simp only [if_neg (show ¬ (takesN l : Int) ≤ 300 by omega), decide_eq_false c, Bool.false_and]
    exact Ev.now _
 ·simp only [if_pos (show (l.length : Int) > 60 by omega), decide_eq_false a, Bool.false_and]
  exact Ev.now _
theorem specGoodOp_loop (l : List Part) (hl : l.length ≤ 60) (hs : sizedP l = true) (d : Nat) : ∀ i : Nat, i + d = l.length → (l.take i).all partB = true →
  Ev (fun k => spec_GoodOp.l0 k l l (l.length : Int) (i : Int)) ((l.drop i).all partB && decide (takesN l ≤ 300) && decide (makesN l ≤ 300)) := by
 induction d with
 | zero =>
  intro i h ht
  refine Ev.succ ?_
  simp only [spec_GoodOp.l0, if_neg (show ¬ ((i : Int) < (l.length : Int)) by omega)]
  rw [List.drop_eq_nil_of_le (by omega)]
  rw [List.take_of_length_le (by omega)] at ht
  refine Ev.bind (specSizes_ev l hl (List.all_eq_true.1 ht)) ?_
  simp only [List.all_nil, Bool.true_and]
  by_cases c : takesN l ≤ 300
  ·simp only [if_pos (show (takesN l : Int) ≤ 300 by omega), decide_eq_true c, Bool.true_and]
   refine ev_eq (Ev.now _) ?_
   rw [Bool.eq_iff_iff]; simp; omega
  ·simp only [if_neg (show ¬ (takesN l : Int) ≤ 300 by omega), decide_eq_false c, Bool.false_and]
   exact Ev.now _
 | succ d ih =>
  intro i h ht
  have hi : i < l.length := by omega
  have e : l.drop i = l[i] :: l.drop (i + 1) := List.drop_eq_getElem_cons hi
  have hz := sizedP_of hs l[i] (List.getElem_mem hi)
  refine Ev.succ ?_
  simp only [spec_GoodOp.l0, if_pos (show ((i : Int) < (l.length : Int)) by omega), if_pos (show (0 : Int) ≤ i by omega), rd_part l i hi]
  refine Ev.bind (specPart_ev l[i] hz.1 hz.2) ?_
  rw [e, List.all_cons]
  cases b : partB l[i] with
  | false => simp only [Bool.false_eq_true, if_false, Bool.false_and]; exact Ev.now _
  | true =>
   simp only [if_true, Bool.true_and, w64 (show -9223372036854775808 ≤ (i : Int) + 1 by omega) (by omega)]
   refine ih (i + 1) (by omega) ?_
   rw [List.take_succ_eq_append_getElem hi, List.all_append, ht]
   simp [b]
theorem specGoodOp_ev (l : List Part) (hs : sizedP l = true) : Ev (fun k => spec_GoodOp.f k l) (opB l) := by
 unfold spec_GoodOp.f opB
 by_cases a : l.length ≤ 60
 ·simp only [if_neg (show ¬ (l.length : Int) > 60 by omega), decide_eq_true a, Bool.true_and]
  have := specGoodOp_loop l a hs l.length 0 (by omega) (by simp)
  simpa using this
 ·simp only [if_pos (show (l.length : Int) > 60 by omega), decide_eq_false a, Bool.false_and]
  exact Ev.now _

def fitsP (p : Part) (s : ByteArray) : Bool := decide (p.f0.toNat + p.f2.size ≤ s.size) && (decide (p.f2.size = 0) || decide (s.extract 0 (p.f0.toNat + p.f2.size) = p.f2))
def makesP (p : Part) (s : ByteArray) : ByteArray := s.extract 0 p.f0.toNat ++ p.f1
def restP (p : Part) (s : ByteArray) : ByteArray := s.extract (p.f0.toNat + p.f2.size) s.size
def appB : List Part → ByteArray → ByteArray → ByteArray × Bool
 | [], s, out => (out, decide (s.size = 0))
 | p :: l, s, out => if fitsP p s = true then appB l (restP p s) (out ++ makesP p s) else (⟨#[]⟩, false)
theorem fitsP_size {p : Part} {s : ByteArray} (h : fitsP p s = true) : p.f0.toNat + p.f2.size ≤ s.size := by
 simp only [fitsP, Bool.and_eq_true, decide_eq_true_eq] at h; exact h.1
theorem restP_size (p : Part) (s : ByteArray) : (restP p s).size = s.size - (p.f0.toNat + p.f2.size) := by
 simp [restP]
theorem makesP_size (p : Part) (s : ByteArray) (h : p.f0.toNat ≤ s.size) : (makesP p s).size = p.f0.toNat + p.f1.size := by
 simp [makesP]; omega
theorem appB_size (l : List Part) : ∀ s out, (appB l s out).2 = true → takesN l = s.size ∧ (appB l s out).1.size = out.size + makesN l := by
 induction l with
 | nil => intro s out h; simp [appB] at h; simp [appB, takesN, makesN, h]
 | cons p l ih =>
  intro s out h
  by_cases f : fitsP p s = true
  ·simp only [appB, if_pos f] at h ⊢
   have h1 := ih _ _ h
   have h2 := fitsP_size f
   rw [restP_size] at h1
   rw [takesN_cons, makesN_cons, h1.2]
   have h3 : (out ++ makesP p s).size = out.size + (makesP p s).size := by simp
   rw [h3, makesP_size p s (by omega)]
   omega
  ·simp only [appB, if_neg f] at h; cases h
theorem appB_bytes (l : List Part) (hp : ∀ p ∈ l, partB p = true) : ∀ s out, bytesB s = true → bytesB out = true → bytesB (appB l s out).1 = true := by
 induction l with
 | nil => intro s out _ h; exact h
 | cons p l ih =>
  intro s out hs ho
  by_cases f : fitsP p s = true
  ·simp only [appB, if_pos f]
   obtain ⟨_, _, _, _, _, _, t1, _⟩ := partB_cases (hp p List.mem_cons_self)
   refine ih (fun q hq => hp q (List.mem_cons_of_mem _ hq)) _ _ (bytesB_cut _ _ hs) ?_
   rw [bytesB_app, ho, makesP, bytesB_app, bytesB_cut _ _ hs, textB_bytes t1]; rfl
  ·simp only [appB, if_neg f]; exact bytesB_nil
theorem appB_text {l : List Part} {s : ByteArray} (h : opB l = true) (hs : textB s = true) (hk : (appB l s ⟨#[]⟩).2 = true) : textB (appB l s ⟨#[]⟩).1 = true := by
 obtain ⟨_, h2, _, h4⟩ := opB_of h
 have h5 := (appB_size l s ⟨#[]⟩ hk).2
 have h6 : (⟨#[]⟩ : ByteArray).size = 0 := rfl
 simp only [textB, appB_bytes l h2 s ⟨#[]⟩ (textB_bytes hs) bytesB_nil, Bool.true_and, decide_eq_true_eq]
 omega
theorem ba_app_nil (a : ByteArray) : a ++ ⟨#[]⟩ = a := ba_ext (by simp [ByteArray.toList_eq])
theorem ba_nil_app (a : ByteArray) : (⟨#[]⟩ : ByteArray) ++ a = a := ba_ext (by simp [ByteArray.toList_eq])
theorem ba_cut0 (a : ByteArray) : a.extract 0 0 = ⟨#[]⟩ := ba_nil (by simp)
theorem toList_inj {a b : ByteArray} : a.toList = b.toList ↔ a = b := ⟨ba_ext, fun h => h ▸ rfl⟩

theorem specApply_loop (l : List Part) (hl : l.length ≤ 60) (hp : ∀ p ∈ l, partB p = true) (d : Nat) : ∀ (i : Nat) (s out : ByteArray), i + d = l.length → out.size ≤ 600 * i →
  Ev (fun k => spec_l3Apply.l0 k s out l (l.length : Int) (i : Int)) (appB (l.drop i) s out) := by
 induction d with
 | zero =>
  intro i s out h _
  refine Ev.succ ?_
  simp only [spec_l3Apply.l0, if_neg (show ¬ ((i : Int) < (l.length : Int)) by omega)]
  rw [List.drop_eq_nil_of_le (by omega)]
  refine ev_eq (Ev.now _) ?_
  simp only [appB, beq_nil]
 | succ d ih =>
  intro i s out h ho
  have hi : i < l.length := by omega
  have e : l.drop i = l[i] :: l.drop (i + 1) := List.drop_eq_getElem_cons hi
  obtain ⟨p0, p1, p2, p3, p4, p5, _⟩ := partB_cases (hp l[i] (List.getElem_mem hi))
  rw [e]
  have hi1 := ih (i + 1)
  refine Ev.succ ?_
  simp only [spec_l3Apply.l0, if_pos (show ((i : Int) < (l.length : Int)) by omega), if_pos (show (0 : Int) ≤ i by omega), rd_part l i hi]
  generalize l[i] = p at *
  obtain ⟨n, hn⟩ : ∃ n : Nat, n = p.f0.toNat + p.f2.size := ⟨_, rfl⟩
  have hw : wrap64 (p.f0 + (p.f2.size : Int)) = (n : Int) := by rw [w64 (by omega) (by omega)]; omega
  simp only [hw, Int.toNat_natCast]
  have fin : ∀ b : Bool, (b = true → fitsP p s = false) → (b = false → fitsP p s = true) → Ev (fun k => spec_l3Apply.j1 k s out (n : Int) l (l.length : Int) (i : Int) b p.f0 p.f1 p.f2) (appB (p :: l.drop (i + 1)) s out) := by
   intro b b1 b2
   refine Ev.succ ?_
   cases b with
   | true =>
    simp only [spec_l3Apply.j1, if_true, appB, b1 rfl, Bool.false_eq_true, if_false]
    exact Ev.now _
   | false =>
    have hf := b2 rfl
    have hsz := fitsP_size hf
    have hms := makesP_size p s (by omega)
    simp only [spec_l3Apply.j1, Bool.false_eq_true, if_false, appB, hf, if_true, Int.toNat_natCast, if_pos (show (0 : Int) ≤ (n : Int) by omega), if_pos (show (n : Int) ≤ (s.size : Int) by omega), w64 (show -9223372036854775808 ≤ (i : Int) + 1 by omega) (by omega)]
    have hr : s.extract n s.size = restP p s := by rw [hn]; rfl
    by_cases c : p.f0 > 0
    ·obtain ⟨q1, q2⟩ := p4 (by omega)
     have e0 : (⟨#[]⟩ : ByteArray).size = 0 := rfl
     have en : n = p.f0.toNat := by rw [hn, q2, e0]; rfl
     have em : s.extract 0 n = makesP p s := by rw [en, makesP, q1, ba_app_nil]
     have e3 : (out ++ makesP p s).size = out.size + (makesP p s).size := by simp
     rw [em, hr, q1, ba_app_nil]
     simp only [if_pos c, if_pos (show out.size + (makesP p s).size ≤ 9223372036854775807 by omega), if_pos (show (out ++ makesP p s).size + (⟨#[]⟩ : ByteArray).size ≤ 9223372036854775807 by omega)]
     exact hi1 (restP p s) (out ++ makesP p s) (by omega) (by omega)
    ·have z : p.f0.toNat = 0 := by omega
     have em : p.f1 = makesP p s := by rw [makesP, z, ba_cut0, ba_nil_app]
     have e3 : (out ++ makesP p s).size = out.size + (makesP p s).size := by simp
     rw [hr]
     simp only [if_neg c, if_pos (show out.size + p.f1.size ≤ 9223372036854775807 by omega)]
     rw [em]
     exact hi1 (restP p s) (out ++ makesP p s) (by omega) (by omega)
  by_cases a : (n : Int) > (s.size : Int)
  ·simp only [if_pos a]
   refine fin true (fun _ => ?_) (fun h => by cases h)
   simp only [fitsP, ← hn, decide_eq_false (show ¬ n ≤ s.size by omega), Bool.false_and]
  ·simp only [if_neg a, toList_nil]
   by_cases b : p.f2.size = 0
   ·simp only [if_pos b]
    refine fin false (fun h => by cases h) (fun _ => ?_)
    simp only [fitsP, ← hn, decide_eq_true (show n ≤ s.size by omega), decide_eq_true b, Bool.true_or, Bool.and_self]
   ·simp only [if_neg b, if_pos (show (0 : Int) ≤ (n : Int) by omega), if_pos (show (n : Int) ≤ (s.size : Int) by omega)]
    refine fin _ (fun h => ?_) (fun h => ?_)
    ·simp only [bne_iff_ne, ne_eq, toList_inj] at h
     simp only [fitsP, ← hn, decide_eq_false b, decide_eq_false h, Bool.or_self, Bool.and_false]
    ·simp only [bne_eq_false_iff_eq, toList_inj] at h
     simp only [fitsP, ← hn, decide_eq_true (show n ≤ s.size by omega), decide_eq_true h, Bool.or_true, Bool.and_self]
theorem specApply_ev (l : List Part) (s : ByteArray) (hl : l.length ≤ 60) (hp : ∀ p ∈ l, partB p = true) : Ev (fun k => spec_l3Apply.f k l s) (appB l s ⟨#[]⟩) := by
 have := specApply_loop l hl hp l.length 0 s ⟨#[]⟩ (by omega) (Nat.le_of_eq rfl)
 simpa [spec_l3Apply.f] using this

def ansB (r : ByteArray × Bool) : ByteArray × Bool := if r.2 = true then (r.1, true) else (⟨#[]⟩, false)
def applyV (l : List Part) (s : ByteArray) : ByteArray × Bool := if opB l = true ∧ textB s = true then ansB (appB l s ⟨#[]⟩) else (⟨#[]⟩, false)
theorem implApply_loop (l : List Part) (hl : l.length ≤ 60) (hp : ∀ p ∈ l, partB p = true) (d : Nat) : ∀ (i : Nat) (s out : ByteArray), i + d = l.length → out.size ≤ 600 * i → takesN (l.drop i) = s.size →
  Ev (fun k => impl_ApplyOp.l0 k s out l (l.length : Int) (i : Int)) (ansB (appB (l.drop i) s out)) := by
 induction d with
 | zero =>
  intro i s out h _ ht
  refine Ev.succ ?_
  simp only [impl_ApplyOp.l0, if_neg (show ¬ ((i : Int) < (l.length : Int)) by omega)]
  rw [List.drop_eq_nil_of_le (by omega)] at ht ⊢
  refine ev_eq (Ev.now _) ?_
  simp [appB, ansB, ← ht, takesN]
 | succ d ih =>
  intro i s out h ho ht
  have hi : i < l.length := by omega
  have e : l.drop i = l[i] :: l.drop (i + 1) := List.drop_eq_getElem_cons hi
  obtain ⟨p0, p1, p2, p3, p4, p5, _⟩ := partB_cases (hp l[i] (List.getElem_mem hi))
  rw [e, takesN_cons] at ht
  rw [e]
  have hi1 := ih (i + 1)
  refine Ev.succ ?_
  simp only [impl_ApplyOp.l0, if_pos (show ((i : Int) < (l.length : Int)) by omega), if_pos (show (0 : Int) ≤ i by omega), rd_part l i hi]
  generalize l[i] = p at *
  obtain ⟨n, hn⟩ : ∃ n : Nat, n = p.f0.toNat + p.f2.size := ⟨_, rfl⟩
  have hw : wrap64 (p.f0 + (p.f2.size : Int)) = (n : Int) := by rw [w64 (by omega) (by omega)]; omega
  simp only [hw, Int.toNat_natCast, if_pos (show (0 : Int) ≤ (p.f2.size : Int) by omega), if_pos (show (p.f2.size : Int) ≤ (s.size : Int) by omega), toList_inj]
  have hcut : p.f0 ≠ 0 → p.f2 = ⟨#[]⟩ := fun x => (p4 x).2
  have e0 : (⟨#[]⟩ : ByteArray).size = 0 := rfl
  by_cases c : s.extract 0 p.f2.size = p.f2
  ·have hf : fitsP p s = true := by
    simp only [fitsP, decide_eq_true (show p.f0.toNat + p.f2.size ≤ s.size by omega), Bool.true_and, Bool.or_eq_true, decide_eq_true_eq]
    by_cases z : p.f0 = 0
    ·right; rw [z]; simpa using c
    ·left; rw [hcut z]; rfl
   have hms := makesP_size p s (by omega)
   have hce : (s.extract 0 p.f0.toNat).size = p.f0.toNat := by simp; omega
   have hmk : s.extract 0 p.f0.toNat ++ p.f1 = makesP p s := rfl
   have e3 : (out ++ makesP p s).size = out.size + (makesP p s).size := by simp
   have hr : s.extract n s.size = restP p s := by rw [hn]; rfl
   rw [hmk, hr]
   simp only [if_pos c, if_pos p0, if_pos (show p.f0 ≤ (s.size : Int) by omega), if_pos (show (s.extract 0 p.f0.toNat).size + p.f1.size ≤ 9223372036854775807 by omega), if_pos (show out.size + (makesP p s).size ≤ 9223372036854775807 by omega), if_pos (show (0 : Int) ≤ (n : Int) by omega), if_pos (show (n : Int) ≤ (s.size : Int) by omega), appB, hf, if_true, w64 (show -9223372036854775808 ≤ (i : Int) + 1 by omega) (by omega)]
   exact hi1 (restP p s) (out ++ makesP p s) (by omega) (by omega) (by rw [restP_size]; omega)
  ·have hf : fitsP p s = false := by
    have hz : p.f2.size ≠ 0 := fun z => c (by rw [ba_nil z]; exact ba_cut0 s)
    have z : p.f0.toNat = 0 := by
     by_cases y : p.f0 = 0
     ·rw [y]; rfl
     ·exact absurd (by rw [hcut y]; rfl) hz
    simp only [fitsP, z, Nat.zero_add, decide_eq_false hz, decide_eq_false c, Bool.or_self, Bool.and_false]
   simp only [if_neg c, appB, hf, Bool.false_eq_true, if_false]
   exact Ev.now _
theorem implApply_ev (l : List Part) (s : ByteArray) (hs : sizedP l = true) (hz : s.size ≤ maxLen) : Ev (fun k => impl_ApplyOp.f k l s) (applyV l s) := by
 unfold impl_ApplyOp.f applyV
 refine Ev.bind (implGoodOp_ev l hs) ?_
 cases a : opB l with
 | false =>
  simp only [Bool.false_eq_true, if_false, false_and]
  refine Ev.succ ?_
  simp only [impl_ApplyOp.j0, if_true]
  exact Ev.now _
 | true =>
  simp only [if_true]
  refine Ev.bind (implText_ev s hz) ?_
  refine Ev.succ ?_
  cases b : textB s with
  | false =>
   simp only [impl_ApplyOp.j0, Bool.not_false, if_true, Bool.false_eq_true, and_false, if_false]
   exact Ev.now _
  | true =>
   obtain ⟨h1, h2, h3, h4⟩ := opB_of a
   simp only [impl_ApplyOp.j0, Bool.not_true, Bool.false_eq_true, if_false, and_self, if_true]
   refine Ev.bind (implSizes_ev l h1 h2) ?_
   by_cases c : takesN l = s.size
   ·simp only [if_pos (show (takesN l : Int) = (s.size : Int) by omega)]
    have := implApply_loop l h1 h2 l.length 0 s ⟨#[]⟩ (by omega) (Nat.le_of_eq rfl) (by simpa using c)
    simpa using this
   ·simp only [if_neg (show ¬ (takesN l : Int) = (s.size : Int) by omega)]
    refine ev_eq (Ev.now _) ?_
    cases d : (appB l s ⟨#[]⟩).2 with
    | true => exact absurd (appB_size l s ⟨#[]⟩ d).1 c
    | false => simp [ansB, d]
section
attribute [local go_sem] max2_int min2_int max_two min_two max_three min_three max_four min_four

end
section
attribute [local go_sem] max2_int min2_int max_two min_two max_three min_three max_four min_four
def spec_l15Entry.f (k : Nat) (a0_0 : Int) (a0_1 : Int) (l0_2 : List (S86)) : Option (Bool) := (spec_l1In.f a0_0 0 9).bind fun t102 => (if t102 = true then ((spec_l1In.f a0_1 1 1000).bind fun t103 => (if t103 = true then ((spec_GoodOp.f k l0_2).bind fun t104 => (some t104)) else (some false))) else (some false))
set_option maxHeartbeats 8000000 in
set_option maxRecDepth 100000 in
theorem spec_l15Entry.calls (k : Nat) (a0_0 : Int) (a0_1 : Int) (A0_2 : Option Addr) (c0_2 : Nat) (l0_2 : List (S86)) (r : Bool) (w : World) (hr0_2 : Kd.C k86 w A0_2 l0_2.length l0_2) (hc0_2 : l0_2.length ≤ c0_2) (h : spec_l15Entry.f k a0_0 a0_1 l0_2 = some r) :
  Calls Try.prog 72 #[.agg #[.int .i64 a0_0, .int .i64 a0_1, .slice A0_2 l0_2.length c0_2]] w fun e w' => e = .returned (.bool r) ∧ Below w.heap.size w w' := by
 have hu57 := Try.underlying57
 have HR0_2 := mz hr0_2
 have HC0_2 := mz hc0_2
 clear hr0_2 hc0_2
 have HB := mz (Below.refl w.heap.size w)
 have H : ((spec_l1In.f a0_0 0 9).bind fun t102 => (if t102 = true then ((spec_l1In.f a0_1 1 1000).bind fun t103 => (if t103 = true then ((spec_GoodOp.f k l0_2).bind fun t104 => (some t104)) else (some false))) else (some false))) = some r := h
 clear h
 replace H := be0_ H
 obtain ⟨t102, A20, H⟩ := H
 replace H : (if t102 = true then ((spec_l1In.f a0_1 1 1000).bind fun t103 => (if t103 = true then ((spec_GoodOp.f k l0_2).bind fun t104 => (some t104)) else (some false))) else (some false)) = some r := H
 have A2 := mz A20
 clear A20
 by_cases c3 : t102 = true
 ·subst c3
  have H1 : ((spec_l1In.f a0_1 1 1000).bind fun t103 => (if t103 = true then ((spec_GoodOp.f k l0_2).bind fun t104 => (some t104)) else (some false))) = some r := by rw [if_pos rfl] at H; exact H
  clear H
  have H := H1
  clear H1
  replace H := be0_ H
  obtain ⟨t103, A40, H⟩ := H
  replace H : (if t103 = true then ((spec_GoodOp.f k l0_2).bind fun t104 => (some t104)) else (some false)) = some r := H
  have A4 := mz A40
  clear A40
  by_cases c5 : t103 = true
  ·subst c5
   have H1 : ((spec_GoodOp.f k l0_2).bind fun t104 => (some t104)) = some r := by rw [if_pos rfl] at H; exact H
   clear H
   have H := H1
   clear H1
   replace H := be0_ H
   obtain ⟨t104, A60, H⟩ := H
   replace H : (some t104) = some r := H
   have A6 := mz A60
   clear A60
   obtain rfl := Option.some.inj H
   go_enter Try.func72, Try.ntmps72
   go_wp2_with (first | ((with_reducible refine gate_dst (N := 1) rfl ?_); refine bz_ 1 #[.int .i64 a0_0, .int .i64 a0_1, .slice A0_2 l0_2.length c0_2] 57 ?_; intro gb101 hg w7 hbox hb; have n0_ := mz (bs0_ hb); have n1_ := mz (hbox); have n2_ := mz ((by rw [hg]; exact bz1_ : w.heap.size ≤ gb101)); have n3_ := mz ((by rw [hg]; exact bz1_ : w.heap.size ≤ gb101)); clear HB; have HB := n0_; have BK101 := n1_; have GW101 := n2_; have GE101 := n3_; clear n0_ n1_ n2_ n3_; clear hb hbox hg; have hcz8_0 := bk_ BK101.out 0 (.int .i64 a0_0); have hcz8_1 := bk_ BK101.out 1 (.int .i64 a0_1); have hcz8_2 := bk_ BK101.out 2 (.slice A0_2 l0_2.length c0_2); have hfz8_0 := blk_frozen BK101.out 0; have hfz8_1 := blk_frozen BK101.out 1; have hfz8_2 := blk_frozen BK101.out 2) | ((with_reducible refine gate_callee (f := 82) rfl ?_); refine goesL_ (some 5) rfl rfl Try.func82 (by kernel_rfl) rfl #[.int .i64 a0_0, .int .i64 0, .int .i64 9] rfl a11_ ?_; (with_reducible refine (spec_l1In.calls a0_0 0 9 true _ A2.out).mono ?_); rintro e w' ⟨rfl, ⟨nd, rfl⟩⟩; refine ⟨_, rfl, ?_⟩) | (go_at_call 82; (with_reducible refine (spec_l1In.calls a0_1 1 1000 true _ A4.out).mono ?_); rintro e w' ⟨rfl, ⟨nd, rfl⟩⟩) | (go_at_call 44; (with_reducible refine (spec_GoodOp.calls k _ _ l0_2 t104 _ ?side1 ?side2 A6.out).mono ?_); (case side1 => repeat (first | exact (Kd.C_below HR0_2.out a8_) | (with_reducible refine Kd.C_alloc ?_ _) | (with_reducible refine Kd.C_drewN ?_ _) | (with_reducible refine Kd.C_drew ?_))); (case side2 => exact HC0_2.out); rintro e w9 ⟨rfl, hb⟩; have n0_ := mz (blk_below (g := gb101) (o := .cells #[.int .i64 a0_0, .int .i64 a0_1, .slice A0_2 l0_2.length c0_2] 57 (0, 0)) a14_ hb); have n1_ := mz (bs2_ hb); clear BK101; clear HB; have BK101 := n0_; have HB := n1_; clear n0_ n1_; (try clear hb); (try clear hb2); (try clear hk); (try clear hi)))
   go_ret
   exact ⟨a27_, a8_⟩
  ·replace c5 := Bool.eq_false_iff.mpr c5
   subst c5
   have H1 : (some false) = some r := by rw [if_neg (show ¬ (false = true) by decide)] at H; exact H
   clear H
   have H := H1
   clear H1
   obtain rfl := Option.some.inj H
   go_enter Try.func72, Try.ntmps72
   go_wp2_with (first | ((with_reducible refine gate_dst (N := 1) rfl ?_); refine bz_ 1 #[.int .i64 a0_0, .int .i64 a0_1, .slice A0_2 l0_2.length c0_2] 57 ?_; intro gb101 hg w10 hbox hb; have n0_ := mz (bs0_ hb); have n1_ := mz (hbox); have n2_ := mz ((by rw [hg]; exact bz1_ : w.heap.size ≤ gb101)); have n3_ := mz ((by rw [hg]; exact bz1_ : w.heap.size ≤ gb101)); clear HB; have HB := n0_; have BK101 := n1_; have GW101 := n2_; have GE101 := n3_; clear n0_ n1_ n2_ n3_; clear hb hbox hg; have hcz11_0 := bk_ BK101.out 0 (.int .i64 a0_0); have hcz11_1 := bk_ BK101.out 1 (.int .i64 a0_1); have hcz11_2 := bk_ BK101.out 2 (.slice A0_2 l0_2.length c0_2); have hfz11_0 := blk_frozen BK101.out 0; have hfz11_1 := blk_frozen BK101.out 1; have hfz11_2 := blk_frozen BK101.out 2) | ((with_reducible refine gate_callee (f := 82) rfl ?_); refine goesL_ (some 5) rfl rfl Try.func82 (by kernel_rfl) rfl #[.int .i64 a0_0, .int .i64 0, .int .i64 9] rfl a11_ ?_; (with_reducible refine (spec_l1In.calls a0_0 0 9 true _ A2.out).mono ?_); rintro e w' ⟨rfl, ⟨nd, rfl⟩⟩; refine ⟨_, rfl, ?_⟩) | (go_at_call 82; (with_reducible refine (spec_l1In.calls a0_1 1 1000 false _ A4.out).mono ?_); rintro e w' ⟨rfl, ⟨nd, rfl⟩⟩))
   go_ret
   exact ⟨a27_, a8_⟩
 ·replace c3 := Bool.eq_false_iff.mpr c3
  subst c3
  have H1 : (some false) = some r := by rw [if_neg (show ¬ (false = true) by decide)] at H; exact H
  clear H
  have H := H1
  clear H1
  obtain rfl := Option.some.inj H
  go_enter Try.func72, Try.ntmps72
  go_wp2_with (first | ((with_reducible refine gate_dst (N := 1) rfl ?_); refine bz_ 1 #[.int .i64 a0_0, .int .i64 a0_1, .slice A0_2 l0_2.length c0_2] 57 ?_; intro gb101 hg w12 hbox hb; have n0_ := mz (bs0_ hb); have n1_ := mz (hbox); have n2_ := mz ((by rw [hg]; exact bz1_ : w.heap.size ≤ gb101)); have n3_ := mz ((by rw [hg]; exact bz1_ : w.heap.size ≤ gb101)); clear HB; have HB := n0_; have BK101 := n1_; have GW101 := n2_; have GE101 := n3_; clear n0_ n1_ n2_ n3_; clear hb hbox hg; have hcz13_0 := bk_ BK101.out 0 (.int .i64 a0_0); have hcz13_1 := bk_ BK101.out 1 (.int .i64 a0_1); have hcz13_2 := bk_ BK101.out 2 (.slice A0_2 l0_2.length c0_2); have hfz13_0 := blk_frozen BK101.out 0; have hfz13_1 := blk_frozen BK101.out 1; have hfz13_2 := blk_frozen BK101.out 2) | ((with_reducible refine gate_callee (f := 82) rfl ?_); refine goesL_ (some 5) rfl rfl Try.func82 (by kernel_rfl) rfl #[.int .i64 a0_0, .int .i64 0, .int .i64 9] rfl a11_ ?_; (with_reducible refine (spec_l1In.calls a0_0 0 9 false _ A2.out).mono ?_); rintro e w' ⟨rfl, ⟨nd, rfl⟩⟩; refine ⟨_, rfl, ?_⟩))
  go_ret
  exact ⟨a27_, a8_⟩
end
end Go.Proofs.Ytgccoekganghhaa.X
