/- The law FnExactEntriesFrom of the program: its proof, part 5. -/
import Derived.Test.YthcbcggfjjkleaaMFnExactEntriesFrom3
import Derived.Test.YthcbcggfjjkleaaMFnExactEntriesFrom4
import Derived.Deep.RegionHeld3
import Derived.Deep.DrawnRows
import Derived.Deep.RegionWith
import Derived.Test.YthcbcggfjjkleaaRows
import Derived.WalkKit
import Derived.ProofKit
import Derived.OpenShut
import Derived.ShutString
import Derived.ChangeOld
import Derived.Below
import Derived.SizedLaws
set_option linter.unusedVariables false
set_option linter.unusedSimpArgs false
namespace Go.Proofs.Ythcbcggfjjkleaa.X
open Go.RowKit Go.Proofs.YthcbcggfjjkleaaW.PrintWords Go.Proofs.YthcbcggfjjkleaaW.PrintLast Go.Proofs.YthcbcggfjjkleaaW.PrintMore
noncomputable def markP (n : Int) : List Part → List Part
  | [] => []
  | _ :: l => ⟨n, mtext (n + 1), mtext (n + 2)⟩ :: markP (n + 3) l
theorem markP_length (l : List Part) : ∀ n, (markP n l).length = l.length := by
  induction l with
  | nil => intro n; rfl
  | cons p l ih => intro n; simp [markP, ih]
theorem markP_get (l : List Part) : ∀ (n : Int) (i : Nat) (h : i < (markP n l).length), (markP n l)[i] = ⟨n + 3 * i, mtext (n + 3 * i + 1), mtext (n + 3 * i + 2)⟩ := by
  induction l with
  | nil => intro n i h; simp [markP] at h
  | cons p l ih =>
    intro n i h
    cases i with
    | zero => simp [markP]
    | succ i =>
      simp only [markP, List.getElem_cons_succ, ih]
      rw [show n + 3 + 3 * (i : Int) = n + 3 * ((i + 1 : Nat) : Int) by omega]
theorem markPartS_loop (n : Int) (h0 : 0 ≤ n) (d : Nat) : ∀ (i : Nat) (l : List Part), i + d = l.length → n + 3 * l.length ≤ 4000000000000000 → l.take i = (markP n l).take i →
    Ev (fun k => laws_markPartS.l0 k l (n + 3 * (i : Int)) (i : Int)) (n + 3 * (l.length : Int), markP n l) := by
  induction d with
  | zero =>
    intro i l h hb ht
    refine Ev.succ ?_
    simp only [laws_markPartS.l0, if_neg (show ¬ ((i : Int) < (l.length : Int)) by omega)]
    refine ev_eq (Ev.now _) ?_
    rw [List.take_of_length_le (by omega), List.take_of_length_le (by rw [markP_length]; omega)] at ht
    rw [← ht, show (i : Int) = (l.length : Int) by omega]
  | succ d ih =>
    intro i l h hb ht
    have hi : i < l.length := by omega
    refine Ev.succ ?_
    simp only [laws_markPartS.l0, if_pos (show ((i : Int) < (l.length : Int)) by omega), if_pos (show (0 : Int) ≤ i by omega), Option.bind_some, Int.toNat_natCast, rd_part l i hi, w64 (show -9223372036854775808 ≤ n + 3 * (i : Int) + 1 by omega) (by omega), w64 (show -9223372036854775808 ≤ n + 3 * (i : Int) + 1 + 1 by omega) (by omega), w64 (show -9223372036854775808 ≤ n + 3 * (i : Int) + 1 + 1 + 1 by omega) (by omega), w64 (show -9223372036854775808 ≤ (i : Int) + 1 by omega) (by omega)]
    refine Ev.bind (mtext_ev (n + 3 * (i : Int) + 1) (by omega)) ?_
    rw [rd_part _ i (by simp; omega)]
    refine Ev.bind (mtext_ev (n + 3 * (i : Int) + 1 + 1) (by omega)) ?_
    rw [rd_part _ i (by simp; omega)]
    have := ih (i + 1) (l.set i ⟨n + 3 * (i : Int), mtext (n + 3 * (i : Int) + 1), mtext (n + 3 * (i : Int) + 2)⟩) (by simp; omega) (by simpa using hb) ?_
    · simp only [List.getElem_set_self, List.set_set, List.length_set] at this ⊢
      rw [show n + 3 * (i : Int) + 1 + 1 + 1 = n + 3 * ((i + 1 : Nat) : Int) by omega, show (i : Int) + 1 = ((i + 1 : Nat) : Int) by omega, show n + 3 * (i : Int) + 1 + 1 = n + 3 * (i : Int) + 2 by omega]
      refine ev_eq this ?_
      have e : ∀ (a b : List Part), a.length = b.length → markP n a = markP n b := by
        intro a b hab
        apply List.ext_getElem
        · rw [markP_length, markP_length, hab]
        · intro j h1 h2; rw [markP_get, markP_get]
      rw [e (l.set i _) l (by simp)]
    · have e : ∀ (a b : List Part), a.length = b.length → markP n a = markP n b := by
        intro a b hab
        apply List.ext_getElem
        · rw [markP_length, markP_length, hab]
        · intro j h1 h2; rw [markP_get, markP_get]
      rw [e (l.set i _) l (by simp), List.take_succ_eq_append_getElem (by simp; omega), List.take_succ_eq_append_getElem (by rw [markP_length]; omega), List.take_set_of_le (by omega), ht, markP_get]
      simp
theorem markPartS_ev (l : List Part) (n : Int) (h0 : 0 ≤ n) (hb : n + 3 * l.length ≤ 4000000000000000) : Ev (fun k => laws_markPartS.f k l n) (n + 3 * (l.length : Int), markP n l) := by
  have := markPartS_loop n h0 l.length 0 l (by omega) hb (by simp)
  simpa [laws_markPartS.f] using this
theorem heldPartS_loop (n : Int) (h0 : 0 ≤ n) (l : List Part) (hb : n + 3 * l.length ≤ 4000000000000000) (d : Nat) : ∀ (i : Nat), i + d = l.length →
    Ev (fun k => laws_heldPartS.l0 k (markP n l) (n + 3 * (i : Int)) (i : Int)) (n + 3 * (l.length : Int)) := by
  induction d with
  | zero =>
    intro i h
    refine Ev.succ ?_
    simp only [laws_heldPartS.l0, markP_length, if_neg (show ¬ ((i : Int) < (l.length : Int)) by omega)]
    refine ev_eq (Ev.now _) ?_
    rw [show (i : Int) = (l.length : Int) by omega]
  | succ d ih =>
    intro i h
    refine Ev.succ ?_
    have hi : i < (markP n l).length := by rw [markP_length]; omega
    simp only [laws_heldPartS.l0, markP_length, if_pos (show ((i : Int) < (l.length : Int)) by omega), if_pos (show (0 : Int) ≤ i by omega), rd_part (markP n l) i hi, markP_get, if_true, w64 (show -9223372036854775808 ≤ n + 3 * (i : Int) + 1 by omega) (by omega), w64 (show -9223372036854775808 ≤ n + 3 * (i : Int) + 1 + 1 by omega) (by omega), w64 (show -9223372036854775808 ≤ n + 3 * (i : Int) + 1 + 1 + 1 by omega) (by omega), w64 (show -9223372036854775808 ≤ (i : Int) + 1 by omega) (by omega)]
    refine Ev.bind (mtext_ev (n + 3 * (i : Int) + 1) (by omega)) ?_
    simp only [if_true]
    refine Ev.bind (mtext_ev (n + 3 * (i : Int) + 1 + 1) (by omega)) ?_
    rw [show n + 3 * (i : Int) + 1 + 1 = n + 3 * (i : Int) + 2 by omega]
    simp only [if_true]
    rw [show n + 3 * (i : Int) + 2 + 1 = n + 3 * ((i + 1 : Nat) : Int) by omega, show (i : Int) + 1 = ((i + 1 : Nat) : Int) by omega]
    exact ih (i + 1) (by omega)
theorem heldPartS_ev (n : Int) (l : List Part) (h0 : 0 ≤ n) (hb : n + 3 * l.length ≤ 4000000000000000) : Ev (fun k => laws_heldPartS.f k (markP n l) n) (n + 3 * (l.length : Int)) := by
  have := heldPartS_loop n h0 l hb l.length 0 (by omega)
  simpa [laws_heldPartS.f] using this

def takesE : List Entry → Int
  | [] => 0
  | e :: l => 2 + 3 * (e.f2.length : Int) + takesE l
theorem takesE_append (a b : List Entry) : takesE (a ++ b) = takesE a + takesE b := by
  induction a with
  | nil => simp [takesE]
  | cons e a ih => simp only [List.cons_append, takesE, ih]; omega
theorem takesE_nonneg (l : List Entry) : 0 ≤ takesE l := by
  induction l with
  | nil => simp [takesE]
  | cons e l ih => simp only [takesE]; omega
theorem takesE_le (l : List Entry) (m : Nat) (h : ∀ e ∈ l, e.f2.length ≤ m) : takesE l ≤ (2 + 3 * (m : Int)) * l.length := by
  induction l with
  | nil => simp [takesE]
  | cons e l ih =>
    have h1 := h e List.mem_cons_self
    have h2 := ih (fun x hx => h x (List.mem_cons_of_mem _ hx))
    simp only [takesE, List.length_cons]
    rw [show (2 + 3 * (m : Int)) * ((l.length + 1 : Nat) : Int) = (2 + 3 * (m : Int)) * l.length + (2 + 3 * (m : Int)) by rw [Int.natCast_add, Int.mul_add]; simp]
    omega
noncomputable def markE (n : Int) : List Entry → List Entry
  | [] => []
  | e :: l => ⟨n, n + 1, markP (n + 2) e.f2⟩ :: markE (n + 2 + 3 * (e.f2.length : Int)) l
theorem markE_length (l : List Entry) : ∀ n, (markE n l).length = l.length := by
  induction l with
  | nil => intro n; rfl
  | cons p l ih => intro n; simp [markE, ih]
theorem markE_get (l : List Entry) : ∀ (n : Int) (i : Nat) (h : i < l.length) (h' : i < (markE n l).length), (markE n l)[i] = ⟨n + takesE (l.take i), n + takesE (l.take i) + 1, markP (n + takesE (l.take i) + 2) l[i].f2⟩ := by
  induction l with
  | nil => intro n i h; simp at h
  | cons p l ih =>
    intro n i h h'
    cases i with
    | zero => simp [markE, takesE]
    | succ i =>
      simp only [markE, List.getElem_cons_succ, List.take_succ_cons, takesE]
      rw [ih _ i (by simpa using h)]
      rw [show n + 2 + 3 * (p.f2.length : Int) + takesE (List.take i l) = n + (2 + 3 * (p.f2.length : Int) + takesE (List.take i l)) by omega]
theorem takesE_succ (l : List Entry) (i : Nat) (h : i < l.length) : takesE (l.take (i + 1)) = takesE (l.take i) + 2 + 3 * (l[i].f2.length : Int) := by
  rw [List.take_succ_eq_append_getElem h, takesE_append]
  simp only [takesE]; omega
theorem takesE_take (l : List Entry) (i : Nat) : takesE (l.take i) ≤ takesE l := by
  have := takesE_append (l.take i) (l.drop i)
  rw [List.take_append_drop] at this
  have := takesE_nonneg (l.drop i)
  omega
theorem heldEntryS_loop (n : Int) (h0 : 0 ≤ n) (l : List Entry) (hb : n + takesE l ≤ 4000000000000000) (d : Nat) : ∀ (i : Nat), i + d = l.length →
    Ev (fun k => laws_heldEntryS.l0 k (markE n l) (n + takesE (l.take i)) (i : Int)) (n + takesE l) := by
  induction d with
  | zero =>
    intro i h
    refine Ev.succ ?_
    simp only [laws_heldEntryS.l0, markE_length, if_neg (show ¬ ((i : Int) < (l.length : Int)) by omega)]
    refine ev_eq (Ev.now _) ?_
    rw [List.take_of_length_le (by omega)]
  | succ d ih =>
    intro i h
    have hi : i < (markE n l).length := by rw [markE_length]; omega
    have hil : i < l.length := by omega
    have hlen : l.length ≤ 2000000000000000 := by
      have : ∀ a : List Entry, 2 * (a.length : Int) ≤ takesE a := by
        intro a
        induction a with
        | nil => simp [takesE]
        | cons e a ih => simp only [takesE, List.length_cons]; omega
      have := this l
      omega
    have hs := takesE_succ l i hil
    have ht := takesE_take l (i + 1)
    have hz := takesE_nonneg (l.take i)
    refine Ev.succ ?_
    simp only [laws_heldEntryS.l0, markE_length, if_pos (show ((i : Int) < (l.length : Int)) by omega), if_pos (show (0 : Int) ≤ i by omega), rd_entry (markE n l) i hi, markE_get l n i hil hi, if_true, w64 (show -9223372036854775808 ≤ n + takesE (l.take i) + 1 by omega) (by omega), w64 (show -9223372036854775808 ≤ n + takesE (l.take i) + 1 + 1 by omega) (by omega), w64 (show -9223372036854775808 ≤ (i : Int) + 1 by omega) (by omega)]
    rw [show n + takesE (l.take i) + 1 + 1 = n + takesE (l.take i) + 2 by omega]
    refine Ev.bind (heldPartS_ev (n + takesE (l.take i) + 2) l[i].f2 (by omega) (by omega)) ?_
    simp only [if_neg (show ¬ (n + takesE (l.take i) + 2 + 3 * (l[i].f2.length : Int) < 0) by omega)]
    rw [show n + takesE (l.take i) + 2 + 3 * (l[i].f2.length : Int) = n + takesE (l.take (i + 1)) by omega]
    exact ih (i + 1) (by omega)
theorem heldEntryS_ev (n : Int) (l : List Entry) (h0 : 0 ≤ n) (hb : n + takesE l ≤ 4000000000000000) : Ev (fun k => laws_heldEntryS.f k (markE n l) n) (n + takesE l) := by
  have := heldEntryS_loop n h0 l hb l.length 0 (by omega)
  simpa [laws_heldEntryS.f, takesE] using this
theorem markE_append (a b : List Entry) : ∀ n, markE n (a ++ b) = markE n a ++ markE (n + takesE a) b := by
  induction a with
  | nil => intro n; simp [markE, takesE]
  | cons e a ih =>
    intro n
    simp only [List.cons_append, markE, ih, takesE]
    rw [show n + 2 + 3 * (e.f2.length : Int) + takesE a = n + (2 + 3 * (e.f2.length : Int) + takesE a) by omega]
noncomputable def curE (n : Int) (l : List Entry) (i : Nat) : List Entry := markE n (l.take i) ++ l.drop i
theorem curE_get (n : Int) (l : List Entry) (i : Nat) (h : i < l.length) (z : Entry) : (curE n l i).getD i z = l[i] := by
  have e : (markE n (l.take i)).length = i := by rw [markE_length, List.length_take]; omega
  rw [curE, List.getD_eq_getElem?_getD, List.getElem?_append_right (by omega), e, Nat.sub_self, List.getElem?_drop]
  simp [h]
theorem curE_step (n : Int) (l : List Entry) (i : Nat) (h : i < l.length) : (curE n l i).set i ⟨n + takesE (l.take i), n + takesE (l.take i) + 1, markP (n + takesE (l.take i) + 2) l[i].f2⟩ = curE n l (i + 1) := by
  have e : (markE n (l.take i)).length = i := by rw [markE_length, List.length_take]; omega
  rw [curE, curE, List.set_append_right _ _ (by omega), e, Nat.sub_self, List.drop_eq_getElem_cons h, List.set_cons_zero, List.take_succ_eq_append_getElem h, markE_append, List.append_assoc]
  rfl

set_option maxHeartbeats 8000000 in
set_option maxRecDepth 100000 in
theorem markEntryS_walk (v : Value) (ok : Nat → Prop) (l : List Entry) (n : Int) (w0 w : World) (hB : Below w0.heap.size w0 w) (hS : Kd.S k59 59 w w0.heap.size ok v l) (hn0 : 0 ≤ n) (hb : n + takesE l ≤ 4000000000000000) :
    Calls Try.prog 27 #[v, .int .i64 n] w fun e w' => e = .returned (.int .i64 (n + takesE l)) ∧ Kd.S k59 59 w' w0.heap.size (fun k => ok k ∨ w.heap.size ≤ k) v (markE n l) ∧ Below w0.heap.size w0 w' ∧ Kept w w' ok := by
  have hown := (Kd.S_R hS).1
  have hS0 := Kd.S_mono (ok' := fun k => ok k ∨ w.heap.size ≤ k) hS (fun _ hk => .inl hk)
  have HS := mz hS0
  have HB := mz hB
  have HO := mz hown
  have HN := mz hb
  have HN0 := mz hn0
  have hlen : l.length ≤ 2000000000000000 := by
    have : ∀ a : List Entry, 2 * (a.length : Int) ≤ takesE a := by
      intro a
      induction a with
      | nil => simp [takesE]
      | cons e a ih => simp only [takesE, List.length_cons]; omega
    have := this l
    omega
  have HL := mz hlen
  by_cases hpos : 0 < l.length
  · obtain ⟨g, cap, rfl, _, _, _, _⟩ := Kd.S_form hS hpos
    clear hS hS0 hown hB hb hn0 hlen
    go_enter Try.func27, Try.ntmps27
    go_wp2
    go_loopg [1, 5] l.length (fun gg s1 s5 wr => ∃ kk : Nat, kk ≤ l.length ∧ l.length - kk ≤ gg ∧ s1 = .int .i64 (n + takesE (l.take kk)) ∧ s5 = .int .i64 kk ∧ Aside0 (Kd.S k59 59 wr w0.heap.size (fun k => ok k ∨ w.heap.size ≤ k) (.slice (some ⟨g, 0, none⟩) l.length cap) (curE n l kk)) ∧ Aside0 (Below w0.heap.size w0 wr) ∧ Aside0 (Kept w wr ok))
    case atStart => exact ⟨0, Nat.zero_le _, by omega, by simp [takesE], rfl, ⟨by simpa [curE, markE] using HS.out⟩, ⟨HB.out⟩, ⟨Kept.refl w ok⟩⟩
    case round =>
      obtain ⟨kk, hkk, hg, rfl, rfl, WS, WB, WK⟩ := hrel
      by_cases hlt : kk < l.length
      · have hltz : (kk : Int) < (l.length : Int) := by omega
        obtain ⟨oki, c, hcl, hM, hcc, hfr, hoki, hH⟩ := Kd.S_elem WS.out z59 (kk : Int) (by omega) hltz
        rw [Int.toNat_natCast, curE_get n l kk hlt] at hM
        obtain ⟨v2, rfl, hR⟩ := k59_openM hM
        have hsz : k59.sz = 3 := rfl
        rw [hsz, Int.toNat_natCast] at hcc hfr
        have x0 : wr.cell? ⟨g, kk * 3, none⟩ = some (.int .i64 l[kk].f0) := hcc 0 _ rfl
        have x1 : wr.cell? ⟨g, kk * 3 + 1, none⟩ = some (.int .i64 l[kk].f1) := hcc 1 _ rfl
        have x2 : wr.cell? ⟨g, kk * 3 + 2, none⟩ = some v2 := hcc 2 _ rfl
        have f0 : wr.frozen? ⟨g, kk * 3, none⟩ = false := hfr 0
        have f1 : wr.frozen? ⟨g, kk * 3 + 1, none⟩ = false := hfr 1
        have f2 : wr.frozen? ⟨g, kk * 3 + 2, none⟩ = false := hfr 2
        clear hcc hfr hM hcl
        obtain ⟨A2, c2, rfl⟩ := Kd.R_slice hR
        have HH := mz hH
        have HR := mz hR
        have HK := mz hoki
        clear hH hR hoki hsz
        have hts := takesE_succ l kk hlt
        have htt := takesE_take l (kk + 1)
        have hz := takesE_nonneg (l.take kk)
        have hbn := HN.out
        have hn0 := HN0.out
        have hcs := curE_step n l kk hlt
        obtain ⟨m, hm⟩ : ∃ m, n + takesE (l.take kk) = m := ⟨_, rfl⟩
        rw [hm] at hcs ⊢
        have hm0 : 0 ≤ m := by omega
        have hm1 : m ≤ 4000000000000000 := by omega
        obtain ⟨K, hK⟩ := Ev.rounds (markPartS_ev l[kk].f2 (m + 2) (by omega) (by omega))
        have HKP : Aside0 (laws_markPartS.f K l[kk].f2 (m + 1 + 1) = some (m + 2 + 3 * (l[kk].f2.length : Int), markP (m + 2) l[kk].f2)) := ⟨by rw [show m + 1 + 1 = m + 2 by omega]; exact hK⟩
        have HCS := mz hcs
        have HMT : Aside0 (m + 2 + 3 * (l[kk].f2.length : Int) = n + takesE (l.take (kk + 1))) := ⟨by omega⟩
        clear hK hcs hts htt hz hbn hn0 hm
        generalize l[kk] = y at x0 x1 x2 HR HKP HCS HMT HH
        go_wp2_with fail
        have hokg : (fun k => ok k ∨ w.heap.size ≤ k) g := (Kd.S_R WS.out).1 g (by simp [Value.ownBlock])
        have hbg : w0.heap.size ≤ g := Kd.S_base WS.out g (by simp [Value.ownBlock])
        have hB2 : Below w0.heap.size w0 ((wr.setCell ⟨g, kk * 3, none⟩ (.int .i64 m)).setCell ⟨g, kk * 3 + 1, none⟩ (.int .i64 (m + 1))) := below_set (below_set WB.out hbg) hbg
        have hR2 := Kd.R_far (p := ⟨g, kk * 3 + 1, none⟩) (Kd.R_far (p := ⟨g, kk * 3, none⟩) HR.out (fun k hk => (HK.out k hk).2) (.int .i64 m)) (fun k hk => (HK.out k hk).2) (.int .i64 (m + 1))
        have hH1 := (Kd.H_seg HH.out (by omega) hltz (seg := [.int .i64 m]) (j := 0) (by show 0 + 1 ≤ 3; omega) (by intro q hq; rw [List.mem_singleton.1 hq]; rfl)).1
        have hH2 := (Kd.H_seg hH1 (by omega) hltz (seg := [.int .i64 (m + 1)]) (j := 1) (by show 1 + 1 ≤ 3; omega) (by intro q hq; rw [List.mem_singleton.1 hq]; rfl)).1
        have hH3 : Kd.H k59 59 ((wr.setCell ⟨g, kk * 3, none⟩ (.int .i64 m)).setCell ⟨g, kk * 3 + 1, none⟩ (.int .i64 (m + 1))) w0.heap.size (fun k => ok k ∨ w.heap.size ≤ k) (.slice (some ⟨g, 0, none⟩) l.length cap) (curE n l kk) (kk : Int) oki [.int .i64 m, .int .i64 (m + 1), .slice A2 y.f2.length c2] := hH2
        have hW2 : wr.heap.size ≤ ((wr.setCell ⟨g, kk * 3, none⟩ (.int .i64 m)).setCell ⟨g, kk * 3 + 1, none⟩ (.int .i64 (m + 1))).heap.size := by simp
        have hk2 : ∀ k, k ≠ g → ((wr.setCell ⟨g, kk * 3, none⟩ (.int .i64 m)).setCell ⟨g, kk * 3 + 1, none⟩ (.int .i64 (m + 1))).heap[k]? = wr.heap[k]? := fun k hk => (Below.heap_setCell _ _ _ k hk).trans (Below.heap_setCell _ _ _ k hk)
        clear hH1 hH2
        generalize ((wr.setCell ⟨g, kk * 3, none⟩ (.int .i64 m)).setCell ⟨g, kk * 3 + 1, none⟩ (.int .i64 (m + 1))) = W2 at hB2 hR2 hH3 hW2 hk2 ⊢
        refine (laws_markPartS.calls K oki (.slice A2 y.f2.length c2) y.f2 (m + 1 + 1) (m + 2 + 3 * (y.f2.length : Int)) (markP (m + 2) y.f2) w0 W2 hB2 hR2 HKP.out).mono ?_
        rintro e w' ⟨rfl, hR3, hB3, hK3⟩
        have hww : w.heap.size ≤ W2.heap.size := Nat.le_trans WK.out.1 hW2
        have hH4 := Kd.H_step (Kd.H_widen hH3) (w1 := w') (fun k hk hnk hlt2 => hK3.2 k hlt2 (fun ho => hnk (.inl ho)))
        have hS4 := Kd.H_back hH4 (x' := ⟨m, m + 1, markP (m + 2) y.f2⟩) (k59_mkM w' w0.heap.size _ ⟨m, m + 1, markP (m + 2) y.f2⟩ hR3) (fun k hk => hk.imp id (fun h => ⟨.inr (Nat.le_trans hww h), h⟩))
        rw [Int.toNat_natCast, HCS.out] at hS4
        have HS4 := mz hS4
        have HB4 := mz hB3
        have HK4 : Aside0 (Kept w w' ok) := ⟨⟨Nat.le_trans hww hK3.1, fun i hi hni => by
          have h1 : ¬ oki i := fun h => by
            rcases (HK.out i h).1 with h2 | h2
            · exact hni h2
            · omega
          have h2 : i ≠ g := fun h => by
            subst h
            rcases hokg with h3 | h3
            · exact hni h3
            · omega
          rw [hK3.2 i (by omega) h1, hk2 i h2]
          exact WK.out.2 i hi hni⟩⟩
        clear hB2 hR2 hH3 hW2 hk2 hR3 hB3 hK3 hww hH4 hS4 hokg hbg
        go_wp2_with fail
        go_roundg (l.length - (kk + 1))
        case measure => omega
        case rel => have hl64 := HL.out; exact ⟨kk + 1, by omega, by omega, by rw [HMT.out], by (first | go_num | (congr 1; unfold wrap64; omega)), ⟨HS4.out⟩, ⟨HB4.out⟩, ⟨HK4.out⟩⟩
      · have hltz : ¬ (kk : Int) < (l.length : Int) := by omega
        obtain rfl : kk = l.length := by omega
        have hfin : Aside0 (curE n l l.length = markE n l ∧ takesE (l.take l.length) = takesE l) := ⟨by simp [curE], by rw [List.take_length]⟩
        go_wp2
        go_ret
        refine ⟨by rw [← hfin.out.2]; rfl, ?_, WB.out, WK.out⟩
        rw [← hfin.out.1]
        exact WS.out
  · have hl0 : l = [] := List.eq_nil_of_length_eq_zero (by omega)
    subst hl0
    obtain ⟨A, c, rfl⟩ := Kd.S_slice hS
    clear hS hS0 hown hB hb hn0 hlen hpos
    simp only [List.length_nil]
    go_enter Try.func27, Try.ntmps27
    go_wp2
    go_loopg [1, 5] 0 (fun gg s1 s5 wr => s1 = .int .i64 n ∧ s5 = .int .i64 0 ∧ Aside0 (Below w.heap.size w wr))
    case atStart => exact ⟨rfl, rfl, ⟨Below.refl _ _⟩⟩
    case round =>
      obtain ⟨rfl, rfl, BW⟩ := hrel
      go_wp2
      go_ret
      refine ⟨by simp [takesE], ?_, ?_, Kept.of_below BW.out ok⟩
      · simpa [markE] using Kd.S_below HS.out BW.out
      · exact HB.out.trans (BW.out.mono HB.out.size)
theorem y_ {p : Prop} (h : p) : Aside0 p := ⟨h⟩
theorem S_rng {W W' : World} {v : Value} {l : List Entry} (h : Kd.S k59 59 W' W.heap.size (fun _ => True) v l) : Kd.S k59 59 W' W.heap.size (fun k => W.heap.size ≤ k ∧ k < W'.heap.size) v l := Kd.S_mono (Kd.S_bound h) (fun k hk => ⟨hk.2.1, hk.2.2.1⟩)
theorem S_kept {W W' : World} {base lo hi : Nat} {v : Value} {l : List Entry} {ok : Nat → Prop} (h : Kd.S k59 59 W base (fun k => lo ≤ k ∧ k < hi) v l) (hk : Kept W W' ok) (hd : ∀ k, lo ≤ k → k < hi → ¬ ok k) : Kd.S k59 59 W' base (fun k => lo ≤ k ∧ k < hi) v l :=
  Kd.S_step h (fun k h1 hlt => hk.2 k hlt (hd k h1.1 h1.2))
theorem SR {W : World} {base n c : Nat} {A : Option Addr} {ok : Nat → Prop} {l : List Entry} (h : Kd.S k59 59 W base ok (.slice A n c) l) : n = l.length ∧ n ≤ c ∧ Kd.C k59 W A l.length l := Kd.S_reads' h
theorem blk_kept {W W' : World} {g : Nat} {o : Obj} {ok : Nat → Prop} (h : W.heap[g]? = some o) (hk : Kept W W' ok) (hg : ¬ ok g) : W'.heap[g]? = some o := (hk.2 g (blk_lt h) hg).trans h
theorem held_at (A : Option Addr) (c : Nat) (G : List Entry) (w : World) (ok : Nat → Prop) (base : Nat) (hS : Kd.S k59 59 w base ok (.slice A G.length c) (markE 1 G)) (K : Nat) (hK : laws_heldEntryS.f K (markE 1 G) 1 = some (1 + takesE G)) :
    Calls Try.prog 28 #[.slice A G.length c, .int .i64 1] w fun e w' => e = .returned (.int .i64 (1 + takesE G)) ∧ Below w.heap.size w w' := by
  obtain ⟨h1, h2, h3⟩ := SR hS
  have := laws_heldEntryS.calls K A c (markE 1 G) 1 _ w h3 (by rw [← h1]; exact h2) hK
  rwa [markE_length] at this
set_option maxHeartbeats 4000000 in
set_option maxRecDepth 100000 in
theorem ms_walk (a t : ByteArray) (A : Option Addr) (c : Nat) (l : List Entry) (ok : Nat → Prop) (n : Int) (w0 w : World) (hB : Below w0.heap.size w0 w) (hS : Kd.S k59 59 w w0.heap.size ok (.slice A l.length c) l) (hn0 : 0 ≤ n) (hb : n + takesE l ≤ 4000000000000000) :
    Calls Try.prog 14 #[.agg #[.string a, .string t, .slice A l.length c], .int .i64 n] w fun e w' => e = .returned (.int .i64 (n + takesE l)) ∧ Below w0.heap.size w0 w' ∧ Kept w w' ok := by
  have HS := y_ hS
  have HB := y_ hB
  have HN := y_ hb
  have HN0 := y_ hn0
  clear hS hB hb hn0
  go_enter Try.func14, Try.ntmps14
  go_wp2_with ((with_reducible refine gate_dst (N := 2) rfl ?_); refine box_event ?hg (N := 2) ?hd (cs := #[.string a, .string t, .slice A l.length c]) (t := 24) ?hr ?_; (case hd => rfl); (case hg => rfl); (case hr => first | (go_simp; done) | (go_simp; rfl)); intro gb hg w3 hbox hb; have HB3 : Aside0 (Below w.heap.size w w3) := ⟨hb⟩; have x2 : w3.cell? ⟨gb, 2, none⟩ = some (.slice A l.length c) := (blk_cell hbox 2).trans rfl; clear hb hbox hg)
  refine (markEntryS_walk (.slice A l.length c) ok l n w0 w3 (HB.out.trans (HB3.out.mono HB.out.size)) (Kd.S_below HS.out HB3.out) HN0.out HN.out).mono ?_
  rintro e w' ⟨rfl, hS', hB', hK'⟩
  have HB4 := y_ hB'
  have HK4 : Aside0 (Kept w w' ok) := ⟨⟨Nat.le_trans HB3.out.size hK'.1, fun i hi hni => by rw [hK'.2 i (Nat.lt_of_lt_of_le hi HB3.out.size) hni]; exact HB3.out.block i hi⟩⟩
  clear hS' hB' hK'
  go_wp2_with fail
  go_ret
  exact ⟨rfl, HB4.out, HK4.out⟩

set_option maxHeartbeats 16000000 in
set_option maxRecDepth 100000 in
theorem ef_walk (a t : ByteArray) (A : Option Addr) (c : Nat) (l : List LEntry) (v : Int) (w : World) (hr : Kd.C k54 w A l.length l) (hc : l.length ≤ c) (hB : B32 ⟨a, t, l⟩) :
    Calls Try.prog 7 #[.agg #[.string a, .string t, .slice A l.length c], .int .i64 v] w fun e w' => e = .returned (.bool true) ∧ Below w.heap.size w w' := by
  obtain ⟨r, hsz, _, hg⟩ := szServer_ev ⟨a, t, l⟩ hB 1048576 (by omega) (by omega)
  obtain ⟨K1, hK1⟩ := Ev.rounds hsz
  have HK1 : Aside0 (laws_szServer.f K1 a t l 1048576 = some r) := ⟨hK1⟩
  have HR := y_ hr
  have HC := y_ hc
  clear hr hc hsz hK1 hB
  by_cases hneg : r < 0
  · clear hg
    go_enter Try.func7, Try.ntmps7
    go_wp2_with ((with_reducible refine gate_dst (N := 2) rfl ?_); refine box_event ?hg (N := 2) ?hd (cs := #[.string a, .string t, .slice A l.length c]) (t := 32) ?hr ?_; (case hd => rfl); (case hg => rfl); (case hr => first | (go_simp; done) | (go_simp; rfl)); intro gs hg w0 hbox hb; have HB0 : Aside0 (Below w.heap.size w w0) := ⟨hb⟩; have BK0 := y_ hbox; have q0 : w0.cell? ⟨gs, 0, none⟩ = some (.string a) := (blk_cell hbox 0).trans rfl; have q1 : w0.cell? ⟨gs, 1, none⟩ = some (.string t) := (blk_cell hbox 1).trans rfl; have q2 : w0.cell? ⟨gs, 2, none⟩ = some (.slice A l.length c) := (blk_cell hbox 2).trans rfl; clear hb hbox hg)
    refine (laws_szServer.calls K1 a t A c l 1048576 r _ (Kd.C_below HR.out HB0.out) HC.out HK1.out).mono ?_
    rintro e w1 ⟨rfl, hb⟩
    have HB1 := y_ (below_step HB0.out hb)
    clear hb
    go_wp2_with fail
    go_ret
    exact ⟨rfl, HB1.out⟩
  · obtain ⟨g0, g1, g2, g3⟩ := hg (by omega)
    have hs := logOf_sized l g3
    have ha : a.size ≤ maxLen := by simp only [maxLen]; exact Nat.le_trans g0 (by omega)
    have hshort := logOf_short l g2 g3
    obtain ⟨K2, hK2⟩ := Ev.rounds (toServer_ev a t l g2 g3)
    obtain ⟨K3, hK3⟩ := Ev.rounds (specFrom_ev a t (logOf l) v hs ha)
    obtain ⟨K4, hK4⟩ := Ev.rounds (implFrom_ev a t (logOf l) v hs ha)
    have hsm := fromV_small a t (logOf l) v
    obtain ⟨G, b, hGb⟩ : ∃ G b, fromV a t (logOf l) v = (G, b) := ⟨_, _, rfl⟩
    rw [hGb] at hK3 hK4 hsm
    have hl60 : G.length ≤ 60 := hsm.1
    have ho60 : ∀ e ∈ G, e.f2.length ≤ 60 := hsm.2
    clear hsm
    obtain ⟨K5, hK5⟩ := Ev.rounds (eqEntryS_ev G ⟨by simp only [maxLen]; omega, fun e he => by have := ho60 e he; simp only [maxLen]; omega⟩)
    obtain ⟨K6, hK6⟩ := Ev.rounds (eqServer_ev a t (logOf l) hshort)
    have hT1 : 1 + takesE (logOf l) ≤ 4000000000000000 := by
      have h1 := takesE_le (logOf l) 1048576 (by
        simp only [logOf, List.mem_map]
        rintro e ⟨x, hx, rfl⟩
        have := (g3 x hx).1
        simp only [entryOf, opOf_length]; exact this)
      have h2 : ((logOf l).length : Int) ≤ 1048576 := by rw [logOf_length]; exact Int.ofNat_le.2 g2
      have h3 : (0 : Int) ≤ ((logOf l).length : Int) := by omega
      have h4 : (2 + 3 * ((1048576 : Nat) : Int)) * ((logOf l).length : Int) ≤ 3145730 * 1048576 := by
        have : (2 + 3 * ((1048576 : Nat) : Int)) = 3145730 := by decide
        rw [this]; omega
      omega
    have hT2 : 1 + takesE G ≤ 4000000000000000 := by
      have h1 := takesE_le G 60 ho60
      have h4 : (2 + 3 * ((60 : Nat) : Int)) * (G.length : Int) ≤ 182 * 60 := by
        have : (2 + 3 * ((60 : Nat) : Int)) = 182 := by decide
        rw [this]; omega
      omega
    have hP1 := takesE_nonneg (logOf l)
    have hP2 := takesE_nonneg G
    obtain ⟨K7, hK7⟩ := Ev.rounds (heldEntryS_ev 1 G (by omega) hT2)
    have HK2 := y_ hK2
    have HK3 := y_ hK3
    have HK4 := y_ hK4
    have HK5 := y_ hK5
    have HK6 := y_ hK6
    have HK7 := y_ hK7
    have HT1 := y_ hT1
    have HT2 := y_ hT2
    have HP1 := y_ hP1
    have HP2 := y_ hP2
    obtain ⟨m1, hm1⟩ : ∃ m1, 1 + takesE (logOf l) = m1 := ⟨_, rfl⟩
    obtain ⟨m2, hm2⟩ : ∃ m2, 1 + takesE G = m2 := ⟨_, rfl⟩
    have n1 : 0 ≤ m1 := by omega
    have n2 : 0 ≤ m2 := by omega
    have HM1 := y_ hm1
    have HM2 := y_ hm2
    clear hK2 hK3 hK4 hK5 hK6 hK7 hT1 hT2 hP1 hP2 hm1 hm2 hs ha hshort hl60 ho60 hGb g0 g1 g2 g3 hg
    go_enter Try.func7, Try.ntmps7
    go_wp2_with ((with_reducible refine gate_dst (N := 2) rfl ?_); refine box_event ?hg (N := 2) ?hd (cs := #[.string a, .string t, .slice A l.length c]) (t := 32) ?hr ?_; (case hd => rfl); (case hg => rfl); (case hr => first | (go_simp; done) | (go_simp; rfl)); intro gs hg w0 hbox hb; have HB0 : Aside0 (Below w.heap.size w w0) := ⟨hb⟩; have BK0 := y_ hbox; have q0 : w0.cell? ⟨gs, 0, none⟩ = some (.string a) := (blk_cell hbox 0).trans rfl; have q1 : w0.cell? ⟨gs, 1, none⟩ = some (.string t) := (blk_cell hbox 1).trans rfl; have q2 : w0.cell? ⟨gs, 2, none⟩ = some (.slice A l.length c) := (blk_cell hbox 2).trans rfl; clear hb hbox hg)
    refine (laws_szServer.calls K1 a t A c l 1048576 r _ (Kd.C_below HR.out HB0.out) HC.out HK1.out).mono ?_
    rintro e w1 ⟨rfl, hb⟩
    have HB1 := y_ (below_step HB0.out hb)
    have BK1 := y_ (blk_below BK0.out hb)
    clear hb q0 q1 q2
    have s1_0 : w1.cell? ⟨gs, 0, none⟩ = some (.string a) := (blk_cell BK1.out 0).trans rfl
    have s1_1 : w1.cell? ⟨gs, 1, none⟩ = some (.string t) := (blk_cell BK1.out 1).trans rfl
    have s1_2 : w1.cell? ⟨gs, 2, none⟩ = some (.slice A l.length c) := (blk_cell BK1.out 2).trans rfl
    go_wp2_with fail
    refine (laws_toServer.calls K2 a t A c l a t (logOf l) _ (Kd.C_below HR.out HB1.out) HC.out HK2.out).mono ?_
    rintro e w2 ⟨v_, rfl, hS, hb⟩
    obtain ⟨A1, cA1, rfl, h1, h2⟩ := Kd.S_reads hS
    have RA1 := y_ h2
    have LA1 := y_ h1
    have HB2 := y_ (below_step HB1.out hb)
    have BK2 := y_ (blk_below BK1.out hb)
    clear hb hS h1 h2
    clear s1_0 s1_1 s1_2
    have s2_0 : w2.cell? ⟨gs, 0, none⟩ = some (.string a) := (blk_cell BK2.out 0).trans rfl
    have s2_1 : w2.cell? ⟨gs, 1, none⟩ = some (.string t) := (blk_cell BK2.out 1).trans rfl
    have s2_2 : w2.cell? ⟨gs, 2, none⟩ = some (.slice A l.length c) := (blk_cell BK2.out 2).trans rfl
    go_wp2_with fail
    refine (spec_EntriesFrom.calls K3 a t A1 cA1 (logOf l) v G b _ RA1.out LA1.out HK3.out).mono ?_
    rintro e w3 ⟨v_, rfl, hS, hb⟩
    obtain ⟨A2, cA2, rfl, h1, h2⟩ := Kd.S_reads hS
    have RA2 := y_ h2
    have LA2 := y_ h1
    have S2 := y_ (S_rng hS)
    have HB3 := y_ (below_step HB2.out hb)
    have BK3 := y_ (blk_below BK2.out hb)
    have Z23 := y_ hb.size
    clear hb hS h1 h2
    clear s2_0 s2_1 s2_2
    have s3_0 : w3.cell? ⟨gs, 0, none⟩ = some (.string a) := (blk_cell BK3.out 0).trans rfl
    have s3_1 : w3.cell? ⟨gs, 1, none⟩ = some (.string t) := (blk_cell BK3.out 1).trans rfl
    have s3_2 : w3.cell? ⟨gs, 2, none⟩ = some (.slice A l.length c) := (blk_cell BK3.out 2).trans rfl
    go_wp2_with fail
    refine (laws_toServer.calls K2 a t A c l a t (logOf l) _ (Kd.C_below HR.out HB3.out) HC.out HK2.out).mono ?_
    rintro e w4 ⟨v_, rfl, hS, hb⟩
    obtain ⟨A3, cA3, rfl, h1, h2⟩ := Kd.S_reads hS
    have RA3 := y_ h2
    have LA3 := y_ h1
    have S3 := y_ (S_rng hS)
    have S24 := y_ (Kd.S_below S2.out hb)
    have HB4 := y_ (below_step HB3.out hb)
    have BK4 := y_ (blk_below BK3.out hb)
    have B34 := y_ hb
    clear hb hS h1 h2
    clear s3_0 s3_1 s3_2
    have s4_0 : w4.cell? ⟨gs, 0, none⟩ = some (.string a) := (blk_cell BK4.out 0).trans rfl
    have s4_1 : w4.cell? ⟨gs, 1, none⟩ = some (.string t) := (blk_cell BK4.out 1).trans rfl
    have s4_2 : w4.cell? ⟨gs, 2, none⟩ = some (.slice A l.length c) := (blk_cell BK4.out 2).trans rfl
    go_wp2_with ((with_reducible refine gate_dst (N := 8) rfl ?_); refine box_event ?hg (N := 8) ?hd (cs := #[.string ⟨#[]⟩, .string ⟨#[]⟩, .slice none 0 0]) (t := 24) ?hr ?_; (case hd => rfl); (case hg => rfl); (case hr => first | (go_simp; done) | (go_simp; rfl)); intro gx hg w5 hbox hb; have HBZ : Aside0 (Below w4.heap.size w4 w5) := ⟨hb⟩; have BZ := y_ hbox; have GX : Aside0 (w4.heap.size ≤ gx) := ⟨by rw [hg]; first | exact Nat.le_refl _ | simp⟩; have z0 : w5.cell? ⟨gx, 0, none⟩ = some (.string ⟨#[]⟩) := (blk_cell hbox 0).trans rfl; have z1 : w5.cell? ⟨gx, 1, none⟩ = some (.string ⟨#[]⟩) := (blk_cell hbox 1).trans rfl; have z2 : w5.cell? ⟨gx, 2, none⟩ = some (.slice none 0 0) := (blk_cell hbox 2).trans rfl; have f0 := blk_frozen hbox 0; have f1 := blk_frozen hbox 1; have f2 := blk_frozen hbox 2; clear hb hbox hg)
    have BX6 := y_ (blk_put (cs' := #[.string a, .string t, .slice A3 (logOf l).length cA3]) (blk_put (cs' := #[.string a, .string t, .slice none 0 0]) (blk_put (cs' := #[.string a, .string ⟨#[]⟩, .slice none 0 0]) BZ.out 0 (.string a) rfl) 1 (.string t) rfl) 2 (.slice A3 (logOf l).length cA3) rfl)
    have B46 := y_ (below_set (j := 2) (v := .slice A3 (logOf l).length cA3) (below_set (j := 1) (v := .string t) (below_set (j := 0) (v := .string a) HBZ.out GX.out) GX.out) GX.out)
    clear z0 z1 z2 f0 f1 f2 BZ HBZ
    generalize (((w5.setCell ⟨gx, 0, none⟩ (.string a)).setCell ⟨gx, 1, none⟩ (.string t)).setCell ⟨gx, 2, none⟩ (.slice A3 (logOf l).length cA3)) = w6 at BX6 B46 ⊢
    clear s4_0 s4_1 s4_2
    have HB6 := y_ (below_step HB4.out B46.out)
    have RA3' := y_ (Kd.C_below RA3.out B46.out)
    refine (impl_EntriesFrom.calls K4 a t A3 cA3 (logOf l) v G b _ RA3'.out LA3.out HK4.out).mono ?_
    rintro e w7 ⟨v_, rfl, hS, hb⟩
    obtain ⟨A4, cA4, rfl, h1, h2⟩ := Kd.S_reads hS
    have RA4 := y_ h2
    have LA4 := y_ h1
    have S4 := y_ (S_rng hS)
    have B67 := y_ hb
    have B47 := y_ (below_step B46.out hb)
    have HB7 := y_ (below_step HB6.out hb)
    have BX7 := y_ (blk_below BX6.out hb)
    have BK7 := y_ (blk_below BK4.out B47.out)
    have S27 := y_ (Kd.S_below S24.out B47.out)
    have S37 := y_ (Kd.S_below S3.out B47.out)
    clear hb hS h1 h2
    go_wp2_with fail
    refine (laws_eqEntryS.calls K5 A4 cA4 G A2 cA2 G true _ RA4.out LA4.out (SR S27.out).2.2 LA2.out HK5.out).mono ?_
    rintro e w8 ⟨rfl, hb⟩
    have B78 := y_ hb
    have HB8 := y_ (below_step HB7.out hb)
    have BX8 := y_ (blk_below BX7.out hb)
    have BK8 := y_ (blk_below BK7.out hb)
    clear hb
    go_wp2_with fail
    refine wp_region_held_drew (S := fun W => W.cell? ⟨gx, 0, none⟩ = some (.string a) ∧ W.cell? ⟨gx, 1, none⟩ = some (.string t) ∧ W.cell? ⟨gx, 2, none⟩ = some (.slice A3 (logOf l).length cA3) ∧ W.cell? ⟨gs, 0, none⟩ = some (.string a) ∧ W.cell? ⟨gs, 1, none⟩ = some (.string t) ∧ W.cell? ⟨gs, 2, none⟩ = some (.slice A l.length c)) (by kernel_rfl) ⟨(blk_cell BX8.out 0).trans rfl, (blk_cell BX8.out 1).trans rfl, (blk_cell BX8.out 2).trans rfl, (blk_cell BK8.out 0).trans rfl, (blk_cell BK8.out 1).trans rfl, (blk_cell BK8.out 2).trans rfl⟩ (fun hHeld => ?_)
    refine wpAnyH_take (i := 0) (v := ?v0_1) rfl (by kernel_rfl) (by kernel_rfl) (by kernel_rfl) (fun _ _ _ h => h) (Or.inl ⟨by rfl, ?y0_1⟩) (by assumption) ?r0_1
    case y0_1 => (intro w hSw; (try dsimp only at hSw); (go_simp; (try with_reducible rfl)))
    (try simp only [Act.put, List.setIfInBounds_toArray, List.set_cons_zero, List.set_cons_succ])
    refine wpAnyH_take (i := 1) (v := ?v1_2) rfl (by kernel_rfl) (by kernel_rfl) (by kernel_rfl) (fun _ _ _ h => h) (Or.inl ⟨by rfl, ?y1_2⟩) (by assumption) ?r1_2
    case y1_2 => (intro w hSw; (try dsimp only at hSw); (go_simp; (try with_reducible rfl)))
    (try simp only [Act.put, List.setIfInBounds_toArray, List.set_cons_zero, List.set_cons_succ])
    refine wpAnyH_ready (rs := [2]) (by kernel_rfl) (by simp) ?_
    refine AllReadyH.cons rfl (fun K hK => ?_) AllReadyH.nil
    go_simp
    go_at_call 18
    refine (laws_toServer.calls K2 a t A c l a t (logOf l) _ (Kd.C_below HR.out (below_drew1 HB8.out)) HC.out HK2.out).mono ?_
    rintro e w9 ⟨v_, rfl, hS, hb⟩
    obtain ⟨A5, cA5, rfl, h1, h2⟩ := Kd.S_reads hS
    have RA5 := y_ h2
    have LA5 := y_ h1
    have HB9 := y_ (below_step (below_drew1 HB8.out) hb)
    have BX9 := y_ (blk_below (blk_drew BX8.out) hb)
    have BK9 := y_ (blk_below (blk_drew BK8.out) hb)
    have B89 := y_ (below_step (below_drew1 (Below.refl _ w8)) hb)
    clear hb hS h1 h2
    (try dsimp only)
    refine hK.out _ _ ⟨(blk_cell BX9.out 0).trans rfl, (blk_cell BX9.out 1).trans rfl, (blk_cell BX9.out 2).trans rfl, (blk_cell BK9.out 0).trans rfl, (blk_cell BK9.out 1).trans rfl, (blk_cell BK9.out 2).trans rfl⟩ (fun hHeld2 => ?_)
    clear hK K
    (try simp only [Act.put, List.setIfInBounds_toArray, List.set_cons_zero, List.set_cons_succ])
    refine wpAnyH_ready (rs := [3]) (by kernel_rfl) (by simp) ?_
    refine AllReadyH.cons rfl (fun K hK => ?_) AllReadyH.nil
    go_simp
    go_at_call 13
    refine (laws_eqServer.calls K6 a t A3 cA3 (logOf l) a t A5 cA5 (logOf l) true _ (SR (Kd.S_below S37.out (below_step B78.out B89.out))).2.2 LA3.out RA5.out LA5.out HK6.out).mono ?_
    rintro e w10 ⟨rfl, hb⟩
    have HB10 := y_ (below_step HB9.out hb)
    have B810 := y_ (below_step B89.out hb)
    have BX10 := y_ (blk_below BX9.out hb)
    have BK10 := y_ (blk_below BK9.out hb)
    clear hb
    (try dsimp only)
    refine hK.out _ _ ⟨(blk_cell BX10.out 0).trans rfl, (blk_cell BX10.out 1).trans rfl, (blk_cell BX10.out 2).trans rfl, (blk_cell BK10.out 0).trans rfl, (blk_cell BK10.out 1).trans rfl, (blk_cell BK10.out 2).trans rfl⟩ (fun hHeld2 => ?_)
    clear hK K
    (try simp only [Act.put, List.setIfInBounds_toArray, List.set_cons_zero, List.set_cons_succ])
    refine wpAnyH_take (i := 4) (v := ?v4_3) rfl (by kernel_rfl) (by kernel_rfl) (by kernel_rfl) (fun _ _ _ h => h) (Or.inl ⟨by rfl, ?y4_3⟩) (by assumption) ?r4_3
    case y4_3 => (intro w hSw; (try dsimp only at hSw); (go_simp; (try with_reducible rfl)))
    (try simp only [Act.put, List.setIfInBounds_toArray, List.set_cons_zero, List.set_cons_succ])
    refine wpAnyH_done (by kernel_rfl) ?_ _
    have B710 := y_ (below_step B78.out B810.out)
    have x10_0 : w10.cell? ⟨gx, 0, none⟩ = some (.string a) := (blk_cell BX10.out 0).trans rfl
    have x10_1 : w10.cell? ⟨gx, 1, none⟩ = some (.string t) := (blk_cell BX10.out 1).trans rfl
    have x10_2 : w10.cell? ⟨gx, 2, none⟩ = some (.slice A3 (logOf l).length cA3) := (blk_cell BX10.out 2).trans rfl
    go_wp2_with fail
    have B3_10 := y_ (below_step B34.out (below_step B47.out B710.out))
    refine (ms_walk a t A3 cA3 (logOf l) (fun k => w3.heap.size ≤ k ∧ k < w4.heap.size) 1 w3 w10 B3_10.out (Kd.S_below S37.out B710.out) (by omega) HT1.out).mono ?_
    rintro e w11 ⟨rfl, hb, hk⟩
    have Z34 := y_ B34.out.size
    have Z47 : Aside0 (w4.heap.size ≤ w6.heap.size) := ⟨B46.out.size⟩
    have GSL : Aside0 (gs < w3.heap.size) := ⟨blk_lt BK3.out⟩
    have HB11 := y_ (below_step HB3.out hb)
    have BK11 := y_ (blk_kept BK10.out hk (fun h => by have := GSL.out; have := h.1; omega))
    have S2_11 := y_ (S_kept (Kd.S_below S27.out B710.out) hk (fun k h1 h2 h => by have := h.1; omega))
    have S4_11 := y_ (S_kept (Kd.S_below S4.out B710.out) hk (fun k h1 h2 h => by have := h.2; have := Z47.out; omega))
    clear hb hk x10_0 x10_1 x10_2
    rw [HM1.out]
    go_wp2_with fail
    refine (laws_eqEntryS.calls K5 A4 cA4 G A2 cA2 G true _ (SR S4_11.out).2.2 LA4.out (SR S2_11.out).2.2 LA2.out HK5.out).mono ?_
    rintro e w12 ⟨rfl, hb⟩
    have B1112 := y_ hb
    have HB12 := y_ (below_step HB11.out hb)
    clear hb
    go_wp2_with fail
    refine (markEntryS_walk (.slice A4 G.length cA4) (fun k => w6.heap.size ≤ k ∧ k < w7.heap.size) G 1 w w12 HB12.out (Kd.S_lower (Kd.S_below S4_11.out B1112.out) HB6.out.size) (by omega) HT2.out).mono ?_
    rintro e w13 ⟨rfl, hSg, hb, hk⟩
    have SG13 := y_ hSg
    have HB13 := y_ hb
    have BK13 := y_ (blk_kept (blk_below BK11.out B1112.out) hk (fun h => by have := GSL.out; have := h.1; have := Z34.out; have := Z47.out; omega))
    have S2_13 := y_ (S_kept (Kd.S_below S2_11.out B1112.out) hk (fun k h1 h2 h => by have := h.1; have := Z34.out; have := Z47.out; omega))
    clear hSg hb hk
    rw [HM2.out]
    have s13_0 : w13.cell? ⟨gs, 0, none⟩ = some (.string a) := (blk_cell BK13.out 0).trans rfl
    have s13_1 : w13.cell? ⟨gs, 1, none⟩ = some (.string t) := (blk_cell BK13.out 1).trans rfl
    have s13_2 : w13.cell? ⟨gs, 2, none⟩ = some (.slice A l.length c) := (blk_cell BK13.out 2).trans rfl
    go_wp2_with fail
    refine (held_at A4 cA4 G _ _ _ SG13.out K7 HK7.out).mono ?_
    rintro e w14 ⟨rfl, hb⟩
    have HB14 := y_ (below_step HB13.out hb)
    have B1314 := y_ hb
    have BK14 := y_ (blk_below BK13.out hb)
    clear s13_0 s13_1 s13_2
    clear hb
    have s14_0 : w14.cell? ⟨gs, 0, none⟩ = some (.string a) := (blk_cell BK14.out 0).trans rfl
    have s14_1 : w14.cell? ⟨gs, 1, none⟩ = some (.string t) := (blk_cell BK14.out 1).trans rfl
    have s14_2 : w14.cell? ⟨gs, 2, none⟩ = some (.slice A l.length c) := (blk_cell BK14.out 2).trans rfl
    rw [HM2.out]
    go_wp2_with fail
    refine (laws_toServer.calls K2 a t A c l a t (logOf l) _ (Kd.C_below HR.out HB14.out) HC.out HK2.out).mono ?_
    rintro e w15 ⟨v_, rfl, hS, hb⟩
    obtain ⟨A6, cA6, rfl, h1, h2⟩ := Kd.S_reads hS
    have RA6 := y_ h2
    have LA6 := y_ h1
    have HB15 := y_ (below_step HB14.out hb)
    have B1315 := y_ (below_step B1314.out hb)
    clear hb hS h1 h2
    clear s14_0 s14_1 s14_2
    go_wp2_with fail
    refine (impl_EntriesFrom.calls K4 a t A6 cA6 (logOf l) v G b _ RA6.out LA6.out HK4.out).mono ?_
    rintro e w16 ⟨v_, rfl, hS, hb⟩
    obtain ⟨A7, cA7, rfl, h1, h2⟩ := Kd.S_reads hS
    have RA7 := y_ h2
    have LA7 := y_ h1
    have HB16 := y_ (below_step HB15.out hb)
    have B1316 := y_ (below_step B1315.out hb)
    clear hb hS h1 h2
    go_wp2_with fail
    refine (laws_eqEntryS.calls K5 A7 cA7 G A2 cA2 G true _ RA7.out LA7.out (SR (Kd.S_below S2_13.out B1316.out)).2.2 LA2.out HK5.out).mono ?_
    rintro e w17 ⟨rfl, hb⟩
    have HB17 := y_ (below_step HB16.out hb)
    have B1317 := y_ (below_step B1316.out hb)
    clear hb
    go_wp2_with fail
    refine (held_at A4 cA4 G _ _ _ (Kd.S_below SG13.out B1317.out) K7 HK7.out).mono ?_
    rintro e w18 ⟨rfl, hb⟩
    have HB18 := y_ (below_step HB17.out hb)
    clear hb
    rw [HM2.out]
    go_wp2_with fail
    go_ret
    exact ⟨rfl, HB18.out⟩
open Classical in
noncomputable def laws_FnExactEntriesFrom.f (k : Nat) (a0_0 : ByteArray) (a0_1 : ByteArray) (l0_2 : List (S54)) (a1 : Int) : Option (Bool) := if B32 ⟨a0_0, a0_1, l0_2⟩ then some true else none
theorem laws_FnExactEntriesFrom.calls (k : Nat) (a0_0 : ByteArray) (a0_1 : ByteArray) (A0_2 : Option Addr) (c0_2 : Nat) (l0_2 : List (S54)) (a1 : Int) (r : Bool) (w : World) (hr0_2 : Kd.C k54 w A0_2 l0_2.length l0_2) (hc0_2 : l0_2.length ≤ c0_2) (h : laws_FnExactEntriesFrom.f k a0_0 a0_1 l0_2 a1 = some r) :
    Calls Try.prog 7 #[.agg #[.string a0_0, .string a0_1, .slice A0_2 l0_2.length c0_2], .int .i64 a1] w fun e w' => e = .returned (.bool r) ∧ Below w.heap.size w w' := by
  unfold laws_FnExactEntriesFrom.f at h
  by_cases hs : B32 ⟨a0_0, a0_1, l0_2⟩
  · rw [if_pos hs] at h
    obtain rfl := Option.some.inj h
    exact ef_walk a0_0 a0_1 A0_2 c0_2 l0_2 a1 w hr0_2 hc0_2 hs
  · rw [if_neg hs] at h
    exact absurd h (by simp)
def PureFnExactEntriesFrom : Prop := ∀ (x0 : S32), ∀ (a1 : Int), B32 x0 → (Lit.int .i64 a1).wf = true → ∃ k, laws_FnExactEntriesFrom.f k x0.f0 x0.f1 x0.f2 a1 = some true
end Go.Proofs.Ythcbcggfjjkleaa.X
namespace Go.Proofs.Ythcbcggfjjkleaa.Pure
open Go.RowKit Go.Proofs.Ythcbcggfjjkleaa.X Go.Proofs.YthcbcggfjjkleaaW.PrintWords Go.Proofs.YthcbcggfjjkleaaW.PrintLast
theorem FnExactEntriesFrom : PureFnExactEntriesFrom := by
  intro x v hB hv
  refine ⟨0, ?_⟩
  unfold laws_FnExactEntriesFrom.f
  rw [if_pos hB]
end Go.Proofs.Ythcbcggfjjkleaa.Pure
namespace Go.Proofs.Ythcbcggfjjkleaa.fnExactEntriesFrom
open Go.ChangeShapes Go.WideShapes Go.ChangeAt Go.RowKit
open Go.ChangeMaps (open_string shut_string)
open Go.Proofs.YthcbcggfjjkleaaW.PrintWords Go.Proofs.Ythcbcggfjjkleaa.X
set_option linter.unusedVariables false
theorem own : ownKnob Try.prog.godebug = none := by kernel_rfl
theorem laidOut : laidOutB Try.prog = true := by kernel_rfl
set_option maxRecDepth 100000 in
theorem lifted (os : Os) (started : os.Started) (H : Type) (enc : TypeId × Value → H) :
    ReturnsInHanded {} Try.checked os 7 .any (Rows.fnExactEntriesFromSpec.pre6 enc Try.prog Try.f7 Rows.fnExactEntriesFromRow.domain false) (Rows.fnExactEntriesFromSpec.post enc Try.prog Try.f7 false true false false) := by
  refine returnsInHanded_of_change_sized (C := Try.checked) own started (by kernel_rfl) Try.func7
    (ChangeSpec.witness6 (enc := enc) (C := Try.checked) false ⟨#[], #[.agg #[.string ByteArray.empty, .string ByteArray.empty, .slice none 0 0], .int .i64 0], []⟩ 8 (by kernel_rfl) (by kernel_rfl) (by kernel_rfl) (by kernel_rfl)) ?_
  intro W base args ds gs before hval0 hW hcnd hsz0 _
  have hval : ∀ (j : Nat) t v, Try.f7.params[j]? = some t → args[j]? = some v → Value.okWide Try.prog W .any base t v := hval0
  have hW' := hW
  obtain ⟨p, q, hA0, hV, rfl, hfz, hnd⟩ := hW
  have hA : DataW.TrodAll enc Try.prog W 0 (fun _ => true) true Try.f7.params.toList args.toList ds p := hA0
  rw [Try.params7] at hA hval
  obtain ⟨v0, vs0, d0, ds0, p0, q0, hargs, rfl, rfl, h0, r0⟩ := trodAll_cons hA
  obtain ⟨v1, vs1, d1, ds1, p1, q1, rfl, rfl, rfl, h1, r1⟩ := trodAll_cons r0
  obtain ⟨rfl, rfl, rfl⟩ := trodAll_nil r1
  obtain rfl : args = #[v0, v1] := by cases args; simp_all
  obtain ⟨rfl, rfl⟩ := trodVars_none hV
  have k0 := h0
  have lt0 : ∀ x ∈ p0, x.block < W.heap.size := by obtain ⟨m, hm⟩ := k0; exact DataW.trod_lt m _ _ _ hm
  obtain ⟨fuel0, hf0⟩ := h0
  obtain ⟨cs0, rfl, _⟩ := okWide_struct Try.underlying32 (hval 0 32 v0 rfl rfl)
  obtain ⟨x0, K0, b0⟩ := opens_S32 H enc W _ _ _ hf0
  obtain ⟨A0_2, c0_2, he0, hc0_2, hr0_2⟩ := k32_open K0
  obtain rfl : cs0 = #[.string x0.f0, .string x0.f1, .slice A0_2 x0.f2.length c0_2] := by cases cs0; simp_all [Value.cells]
  obtain ⟨a1, rfl, rfl, rfl, w1⟩ := open_int Try.underlying3 (hval 1 3 v1 rfl rfl) h1
  clear hA0 hval0 hsz0
  have hP : PureFnExactEntriesFrom := Pure.FnExactEntriesFrom
  obtain ⟨k, hk⟩ := hP x0 a1 b0 w1
  refine (laws_FnExactEntriesFrom.calls k x0.f0 x0.f1 _ _ x0.f2 a1 true W hr0_2 hc0_2 hk).mono fun e W' ⟨he, bel0⟩ => ?_
  have bel : Below W.heap.size W W' := bel0
  subst he
  exact ⟨_, rfl, _, _, _, [], _, [], hW', trodAll_mk1 (shut_bool Try.underlying4 _), (trodAll_cons_mk (Below.trod laidOut (by kernel_rfl) (of_decide_eq_true (by kernel_rfl)) k0 bel lt0) (trodAll_cons_mk (shut_int Try.underlying3 w1) trodAll_mk0)), rfl, bel.frame _, fun h => by cases h⟩
theorem over : Rows.fnExactEntriesFromRow.holds Try.pinned (OpenSpec.ofChange Rows.fnExactEntriesFromSpec) :=
  OpenClaim.holds_of_wide 7 Try.f7 rfl rfl rfl rfl rfl rfl rfl ⟨rfl, rfl, rfl, rfl, rfl⟩ rfl rfl rfl rfl rfl (by kernel_rfl) Try.func7 (by kernel_rfl)
    (of_decide_eq_true (by kernel_rfl)) (by unfold Func.isWrapper; first | (rw [if_pos (by decide +kernel)]; kernel_rfl) | (rw [if_neg (by decide +kernel)]; exact ⟨rfl, rfl⟩))
    (fun os started H enc _ => lifted os started H enc)
theorem proved : Rows.FnExactEntriesFromSaid := over
#print axioms proved
end Go.Proofs.Ythcbcggfjjkleaa.fnExactEntriesFrom
namespace Go.Proofs.Ythcbcggfjjkleaa
theorem fnExactEntriesFrom_holds : Rows.FnExactEntriesFromSaid := fnExactEntriesFrom.proved
end Go.Proofs.Ythcbcggfjjkleaa
