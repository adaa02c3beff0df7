/- By hand, in the print's form: slices.ContainsFunc over strings, areWords, allFit. -/
import Derived.Test.YtdniecpijkhpnaaWords
import Derived.Test.YtdniecpijkhpnaaX67
import Derived.Test.YtdniecpijkhpnaaX43
import Derived.Shelf.Abstract
set_option linter.unusedVariables false
set_option linter.unusedSimpArgs false
namespace Go.Proofs.Ytdniecpijkhpnaa.X
open Go.RowKit Go.Proofs.YtdniecpijkhpnaaW.PrintWords Go.Proofs.YtdniecpijkhpnaaW.PrintLast Go.Proofs.YtdniecpijkhpnaaW.PrintMore

/-- A function value that answers p of each string of l, in each later world. -/
def PredStr (g : Nat) (lb : Array Value) (p : ByteArray → Bool) (l : List ByteArray) (w : World) : Prop :=
  ∀ (W : World) (x : ByteArray), x ∈ l → Below w.heap.size w W → Calls Try.prog g (#[.string x] ++ lb) W fun e w' => e = .returned (.bool (p x)) ∧ Below w.heap.size w w'

def FoundStr (p : ByteArray → Bool) (l : List ByteArray) (e : Ending) : Prop := ∃ z : Int, e = .returned (.int .i64 z) ∧ (0 ≤ z ↔ l.any p = true)
theorem FoundStr.mk {p : ByteArray → Bool} {l : List ByteArray} {e : Ending} (z : Int) (h : e = .returned (.int .i64 z)) (h2 : 0 ≤ z ↔ l.any p = true) : FoundStr p l e := ⟨z, h, h2⟩

set_option maxHeartbeats 2000000 in
theorem indexFunc_str (g : Nat) (lb : Array Value) (p : ByteArray → Bool) (A : Option Addr) (c : Nat) (l : List ByteArray) (w : World) (hr : Kd.C Kd.string w A l.length l) (hp : PredStr g lb p l w)
    (eg : ∀ args w, (callFunc g args).run Try.prog w = .ok (.enter g args) w) :
    Calls Try.prog 77 #[.slice A l.length c, .func (.func g) #[] lb] w fun e w' => FoundStr p l e ∧ Below w.heap.size w w' := by
  have hl : l.length ≤ 9223372036854775807 := hr.2.1
  have HR := Aside0.mk hr
  have HP := Aside0.mk hp
  clear hr hp
  go_enter Try.func77, Try.ntmps77
  go_wp2
  go_loopg [5, 8] l.length (fun gg _ s8 wr => ∃ kk : Nat, kk ≤ l.length ∧ l.length - kk ≤ gg ∧ s8 = .int .i64 kk ∧ Aside0 (Below w.heap.size w wr) ∧ Aside0 ((l.take kk).any p = false))
  case atStart => exact ⟨0, Nat.zero_le _, by omega, rfl, ⟨Below.refl _ w⟩, ⟨by simp⟩⟩
  case round =>
    obtain ⟨kk, hkk, hg, rfl, BW, AN⟩ := hrel
    by_cases hlt : kk < l.length
    · have hltz : (kk : Int) < (l.length : Int) := by omega
      obtain ⟨ad, e1, hx⟩ := Kd.at_string (Kd.C_below HR.out BW.out) (kk : Int) (by omega) hltz
      cases e1
      rw [rdOf_get _ l kk hlt, Int.toNat_natCast] at hx
      have hcall := HP.out wr l[kk] (List.getElem_mem hlt) BW.out
      have HE : Aside0 (l.take (kk + 1) = l.take kk ++ [l[kk]]) := ⟨List.take_succ_eq_append_getElem hlt⟩
      have HA : Aside0 ((l.any p = true) ↔ (p l[kk] = true ∨ (l.drop (kk + 1)).any p = true)) := ⟨by
        have h := List.take_append_drop (kk + 1) l
        have h2 : l.any p = ((l.take (kk + 1)).any p || (l.drop (kk + 1)).any p) := by rw [← List.any_append, h]
        rw [h2, HE.out, List.any_append, AN.out]
        simp⟩
      generalize l[kk] = y at hx hcall HE HA
      cases hq : p y with
      | true =>
        have HQ := Aside0.mk hq
        rw [hq] at hcall
        clear hq
        go_wp2_with fail
        refine hcall.mono ?_
        rintro e w' ⟨rfl, hb'⟩
        go_wp2_with fail
        go_ret
        exact ⟨FoundStr.mk _ rfl (by rw [HA.out]; constructor <;> intro _ <;> first | exact Or.inl HQ.out | omega), hb'⟩
      | false =>
        have HQ := Aside0.mk hq
        rw [hq] at hcall
        clear hq
        go_wp2_with fail
        refine hcall.mono ?_
        rintro e w' ⟨rfl, hb'⟩
        go_wp2_with fail
        go_roundg (l.length - (kk + 1))
        case measure => omega
        case rel =>
          refine ⟨kk + 1, by omega, by omega, by go_num, ⟨hb'⟩, ⟨?_⟩⟩
          rw [HE.out, List.any_append, AN.out]
          simp [HQ.out]
    · have hltz : ¬ (kk : Int) < (l.length : Int) := by omega
      have : kk = l.length := by omega
      subst this
      go_wp2
      go_ret
      refine ⟨FoundStr.mk (-1) rfl ?_, BW.out⟩
      have h3 := AN.out
      rw [List.take_length] at h3
      exact ⟨fun h => absurd h (by decide), fun h => by rw [h3] at h; cases h⟩

set_option maxHeartbeats 2000000 in
theorem containsFunc_str (g : Nat) (lb : Array Value) (p : ByteArray → Bool) (A : Option Addr) (c : Nat) (l : List ByteArray) (w : World) (hr : Kd.C Kd.string w A l.length l) (hp : PredStr g lb p l w)
    (eg : ∀ args w, (callFunc g args).run Try.prog w = .ok (.enter g args) w) :
    Calls Try.prog 58 #[.slice A l.length c, .func (.func g) #[] lb] w fun e w' => e = .returned (.bool (l.any p)) ∧ Below w.heap.size w w' := by
  have HR := Aside0.mk hr
  have HP := Aside0.mk hp
  clear hr hp
  have HB : ∀ z : Int, (0 ≤ z ↔ l.any p = true) → decide (0 ≤ z) = l.any p := fun z h => by rw [Bool.eq_iff_iff]; simpa using h
  have HB' := Aside0.mk HB
  clear HB
  go_enter Try.func58, Try.ntmps58
  go_wp2_with (go_at_call 77; refine (indexFunc_str g lb p A c l _ HR.out HP.out eg).mono ?_; rintro e w' ⟨⟨z, rfl, hz⟩, hb'⟩; have HZ := Aside0.mk hz; clear hz)
  go_ret
  exact ⟨by rw [← HB'.out z HZ.out]; rfl, hb'⟩

/-! ### impl_areWords -/
def impl_areWords.f (l0 : List ByteArray) : Option (Bool) := if l0.all (fun s => decide (s.size ≤ maxLen)) = true then some (decide (l0.length ≤ 60) && l0.all isWordB) else none
theorem areWords_pred (l : List ByteArray) (hl : ∀ s ∈ l, s.size ≤ maxLen) (w : World) : PredStr 66 #[] (fun s => !isWordB s) l w := by
  intro W x hx hb
  obtain ⟨k, hk⟩ := Ev.rounds (isWordText_ev x (hl x hx))
  have HB := Aside0.mk hb
  have HK := Aside0.mk hk
  clear hb hk
  cases hq : isWordB x with
  | true =>
    have HQ := Aside0.mk hq
    rw [hq] at HK
    clear hq
    go_enter Try.func66, Try.ntmps66
    go_wp2_with (go_at_call 67; refine (impl_isWordText.calls k x true _ HK.out).mono ?_; rintro e w' ⟨rfl, hd⟩; have HD := Aside0.mk hd; clear hd)
    go_ret
    exact ⟨by rw [HQ.out]; rfl, below_then HB.out HB.out.size HD.out.below⟩
  | false =>
    have HQ := Aside0.mk hq
    rw [hq] at HK
    clear hq
    go_enter Try.func66, Try.ntmps66
    go_wp2_with (go_at_call 67; refine (impl_isWordText.calls k x false _ HK.out).mono ?_; rintro e w' ⟨rfl, hd⟩; have HD := Aside0.mk hd; clear hd)
    go_ret
    exact ⟨by rw [HQ.out]; rfl, below_then HB.out HB.out.size HD.out.below⟩
theorem impl_areWords.calls (A0 : Option Addr) (c0 : Nat) (l0 : List ByteArray) (r : Bool) (w : World) (hr0 : Kd.C Kd.string w A0 l0.length l0) (_hc0 : l0.length ≤ c0) (h : impl_areWords.f l0 = some r) :
    Calls Try.prog 46 #[.slice A0 l0.length c0] w fun e w' => e = .returned (.bool r) ∧ Below w.heap.size w w' := by
  unfold impl_areWords.f at h
  by_cases hs : l0.all (fun s => decide (s.size ≤ maxLen)) = true
  · rw [if_pos hs] at h
    have hs' : ∀ s ∈ l0, s.size ≤ maxLen := by simpa using hs
    have HP := Aside0.mk (areWords_pred l0 hs')
    have HR := Aside0.mk hr0
    have HH := Aside0.mk h
    have hl : l0.length ≤ 9223372036854775807 := hr0.2.1
    clear hs hs' h hr0
    by_cases h60 : l0.length ≤ 60
    · have d1 : decide ((l0.length : Int) ≤ 60) = true := decide_eq_true (by omega)
      have d2 : decide (l0.length ≤ 60) = true := decide_eq_true h60
      go_enter Try.func46, Try.ntmps46
      go_wp2_with (go_at_call 58; refine (containsFunc_str 66 #[] _ A0 c0 l0 _ HR.out (HP.out _) (Go.Proofs.enters_of Try.func66 (by kernel_rfl) rfl)).mono ?_; rintro e w' ⟨rfl, hb⟩)
      go_ret
      refine ⟨?_, hb⟩
      have := Option.some.inj HH.out
      rw [← this, decide_eq_true h60, List.any_eq_not_all_not]
      simp
    · have d1 : decide ((l0.length : Int) ≤ 60) = false := decide_eq_false (by omega)
      have d2 : decide (l0.length ≤ 60) = false := decide_eq_false h60
      go_enter Try.func46, Try.ntmps46
      go_wp2
      go_ret
      refine ⟨?_, Below.refl _ _⟩
      have := Option.some.inj HH.out
      rw [← this, decide_eq_false h60]
      simp
  · rw [if_neg hs] at h
    exact absurd h (by simp)

/-! ### impl_allFit -/
def impl_allFit.f (l0 : List ByteArray) (a1 : Int) : Option (Bool) := if l0.all (fun s => decide (s.size ≤ maxLen)) = true then some (decide (l0.length ≤ 60) && l0.all isWordB && (decide (1 ≤ a1) && decide (a1 ≤ 80)) && l0.all (fun s => decide ((s.size : Int) ≤ a1))) else none
theorem allFit_pred (l : List ByteArray) (hl : ∀ s ∈ l, s.size ≤ maxLen) (a : Int) (B : Nat) (w : World) (hB : B < w.heap.size) (hc : w.cell? ⟨B, 0, none⟩ = some (.int .i64 a)) : PredStr 68 #[.pointer (some ⟨B, 0, none⟩)] (fun s => decide (a < (s.size : Int))) l w := by
  intro W x hx hb
  have hs := hl x hx
  simp only [maxLen] at hs
  have hc' : W.cell? ⟨B, 0, none⟩ = some (.int .i64 a) := (hb.cell (p := ⟨B, 0, none⟩) hB).trans hc
  have HB := Aside0.mk hb
  clear hb hc
  go_enter Try.func68, Try.ntmps68
  go_wp2
  go_ret
  exact ⟨rfl, HB.out⟩
theorem impl_allFit.calls (A0 : Option Addr) (c0 : Nat) (l0 : List ByteArray) (a1 : Int) (r : Bool) (w : World) (hr0 : Kd.C Kd.string w A0 l0.length l0) (hc0 : l0.length ≤ c0) (h : impl_allFit.f l0 a1 = some r) :
    Calls Try.prog 47 #[.slice A0 l0.length c0, .int .i64 a1] w fun e w' => e = .returned (.bool r) ∧ Below w.heap.size w w' := by
  unfold impl_allFit.f at h
  by_cases hs : l0.all (fun s => decide (s.size ≤ maxLen)) = true
  · rw [if_pos hs] at h
    have hs' : ∀ s ∈ l0, s.size ≤ maxLen := by simpa using hs
    have hA : impl_areWords.f l0 = some (decide (l0.length ≤ 60) && l0.all isWordB) := by unfold impl_areWords.f; rw [if_pos hs]
    have hW : impl_isWidth.f a1 = some (decide (1 ≤ a1) && decide (a1 ≤ 80)) := by
      unfold impl_isWidth.f
      by_cases h1 : a1 ≥ 1
      · rw [if_pos h1, decide_eq_true (show 1 ≤ a1 from h1)]; simp
      · rw [if_neg h1, decide_eq_false (show ¬ 1 ≤ a1 from h1)]; simp
    have HP := Aside0.mk (fun w B hB hc => allFit_pred l0 hs' a1 B w hB hc)
    have HR := Aside0.mk hr0
    have HR1 := Aside0.mk (fun o : Obj => Kd.C_below hr0 ((Below.refl w.heap.size w).alloc (Nat.le_refl _) o))
    have HC := Aside0.mk hc0
    obtain ⟨b1, hb1⟩ : ∃ b, (decide (l0.length ≤ 60) && l0.all isWordB) = b := ⟨_, rfl⟩
    obtain ⟨b2, hb2⟩ : ∃ b, (decide (1 ≤ a1) && decide (a1 ≤ 80)) = b := ⟨_, rfl⟩
    rw [hb1] at hA h
    rw [hb2] at hW h
    have HA := Aside0.mk hA
    have HW := Aside0.mk hW
    have HH := Aside0.mk h
    clear hs hs' h hr0 hA hW hb1 hb2 hc0
    cases b1 with
    | false =>
      go_enter Try.func47, Try.ntmps47
      go_wp2_with (go_at_call 46; refine (impl_areWords.calls A0 c0 l0 false _ (HR1.out _) HC.out HA.out).mono ?_; rintro e w' ⟨rfl, hb⟩)
      go_ret
      refine ⟨?_, below_then ((Below.refl w.heap.size w).alloc (Nat.le_refl _) _) (by simp) hb⟩
      have := Option.some.inj HH.out
      rw [← this]; simp
    | true =>
      cases b2 with
      | false =>
        go_enter Try.func47, Try.ntmps47
        go_wp2_with (first | (go_at_call 46; refine (impl_areWords.calls A0 c0 l0 true _ (HR1.out _) HC.out HA.out).mono ?_; rintro e w1 ⟨rfl, hb⟩; have hcw : w1.cell? ⟨w.heap.size, 0, none⟩ = some (.int .i64 a1) := (hb.cell (p := ⟨w.heap.size, 0, none⟩) (by simp)).trans (by simp); have HB := Aside0.mk hb; clear hb) | (go_at_call 43; refine (impl_isWidth.calls a1 false _ HW.out).mono ?_; rintro e w2 ⟨rfl, hd⟩; have HD := Aside0.mk hd; clear hd))
        go_ret
        refine ⟨?_, below_then (below_then ((Below.refl w.heap.size w).alloc (Nat.le_refl _) _) (by simp) HB.out) (by have := HB.out.size; simp at this; omega) HD.out.below⟩
        have := Option.some.inj HH.out
        rw [← this]; simp
      | true =>
        go_enter Try.func47, Try.ntmps47
        go_wp2_with (first | (go_at_call 46; refine (impl_areWords.calls A0 c0 l0 true _ (HR1.out _) HC.out HA.out).mono ?_; rintro e w1 ⟨rfl, hb⟩; have hcw : w1.cell? ⟨w.heap.size, 0, none⟩ = some (.int .i64 a1) := (hb.cell (p := ⟨w.heap.size, 0, none⟩) (by simp)).trans (by simp); have hz1 : w.heap.size + 1 ≤ w1.heap.size := Nat.le_trans (by simp) hb.size; have HB := Aside0.mk (below_then ((Below.refl w.heap.size w).alloc (Nat.le_refl _) _) (by simp) hb); clear hb) | (go_at_call 43; refine (impl_isWidth.calls a1 true _ HW.out).mono ?_; rintro e w2 ⟨rfl, hd⟩; obtain ⟨nd, rfl⟩ := hd.out; clear hd) | (go_at_call 58; refine (containsFunc_str 68 _ _ A0 c0 l0 _ (Kd.C_below HR.out (pw_below_drewN HB.out _)) (HP.out _ w.heap.size (by simp; omega) (by simpa using hcw)) (Go.Proofs.enters_of Try.func68 (by kernel_rfl) rfl)).mono ?_; rintro e w3 ⟨rfl, hb3⟩))
        go_ret
        refine ⟨?_, below_then (pw_below_drewN HB.out _) (by simp; omega) hb3⟩
        have := Option.some.inj HH.out
        rw [← this, List.any_eq_not_all_not]
        have hf : (fun x : ByteArray => !decide (a1 < (x.size : Int))) = fun s => decide ((s.size : Int) ≤ a1) := funext fun x => by rw [Bool.eq_iff_iff]; simp
        simp [hf]
  · rw [if_neg hs] at h
    exact absurd h (by simp)

end Go.Proofs.Ytdniecpijkhpnaa.X
