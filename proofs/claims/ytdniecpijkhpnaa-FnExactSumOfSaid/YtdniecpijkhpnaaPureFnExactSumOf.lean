/- The program's SumOf returns what the reference's SumOf returns, at every string. -/
import Derived.Test.YtdniecpijkhpnaaPFnExactSumOfx1
namespace Go.Proofs.Ytdniecpijkhpnaa.Pure
open Go.RowKit Go.Proofs.Ytdniecpijkhpnaa.PFnExactSumOf Go.Proofs.YtdniecpijkhpnaaW.PrintWords Go.Proofs.YtdniecpijkhpnaaW.PrintLast

theorem sum_or (a b : Int) (ha : 0 ≤ a) (ha1 : a < 65521) (hb : 0 ≤ b) (hb1 : b < 65521) :
    Go.bits .or .i64 (wrap64 (b * 65536)) a = wrap64 ((wrap64 (b * 65536)) + a) := by
  have e : wrap64 (b * 65536) = b * 65536 := by unfold wrap64; omega
  have e2 : wrap64 (b * 65536 + a) = b * 65536 + a := by unfold wrap64; omega
  rw [e, e2]
  exact bits_join .i64 63 (by decide) (fun n h0 h1 => by rw [IntKind.wrap_i64]; omega) 16 _ _ (by omega) (by omega) (by omega) ha (by omega) (by omega)

theorem sum_loops (s : ByteArray) (hs : s.size ≤ 140737488351232) (d : Nat) : ∀ (k : Nat) (i a b : Int), 0 ≤ i → i ≤ s.size → (s.size : Int) - i = d → d < k →
    0 ≤ a → a < 65521 → 0 ≤ b → b < 65521 → ∃ r, spec_l18Sum.l0 k s a b i = some r ∧ impl_SumOf.l0 k s a b (s.size : Int) i = some r := by
  induction d with
  | zero =>
    intro k i a b h0 h1 hd hk ha ha1 hb hb1
    obtain ⟨k, rfl⟩ : ∃ m, k = m + 1 := ⟨k - 1, by omega⟩
    refine ⟨wrap64 ((wrap64 (b * 65536)) + a), ?_, ?_⟩
    · simp only [spec_l18Sum.l0]; rw [if_neg (by omega), sum_or a b ha ha1 hb hb1]
    · simp only [impl_SumOf.l0]; rw [if_neg (by omega)]
  | succ d ih =>
    intro k i a b h0 h1 hd hk ha ha1 hb hb1
    obtain ⟨k, rfl⟩ : ∃ m, k = m + 1 := ⟨k - 1, by omega⟩
    have hr := bt_range s i
    have ea : wrap64 (bt s i) = bt s i := by unfold wrap64; omega
    have eb : wrap64 (a + bt s i) = a + bt s i := by unfold wrap64; omega
    have ei : wrap64 (i + 1) = i + 1 := by unfold wrap64; omega
    have em : Int.tmod (a + bt s i) 65521 = (a + bt s i) % 65521 := Int.tmod_eq_emod_of_nonneg (by omega)
    have en : wrap64 (b + (a + bt s i) % 65521) = b + (a + bt s i) % 65521 := by unfold wrap64; omega
    have eo : Int.tmod (b + (a + bt s i) % 65521) 65521 = (b + (a + bt s i) % 65521) % 65521 := Int.tmod_eq_emod_of_nonneg (by omega)
    obtain ⟨r, h2, h3⟩ := ih k (i + 1) ((a + bt s i) % 65521) ((b + (a + bt s i) % 65521) % 65521) (by omega) (by omega) (by omega) (by omega) (by omega) (by omega) (by omega) (by omega)
    refine ⟨r, ?_, ?_⟩
    · simp only [spec_l18Sum.l0]; rw [if_pos (by omega), if_pos h0, ea, eb, ei, em, en, eo]; exact h2
    · simp only [impl_SumOf.l0]; rw [if_pos (by omega), if_pos h0, if_pos (by omega), ea, eb, ei, em, en, eo]; exact h3

theorem FnExactSumOf : laws_FnExactSumOf.Pure := by
  intro s hs
  obtain ⟨r, h1, h2⟩ := sum_loops s hs s.size (s.size + 1) 0 1 0 (by omega) (by omega) (by omega) (by omega) (by omega) (by omega) (by omega) (by omega)
  refine ⟨s.size + 1, ?_⟩
  unfold laws_FnExactSumOf.f spec_SumOf.f spec_l18Sum.f impl_SumOf.f
  by_cases h : (s.size : Int) > 1048576
  · rw [if_pos h]
  · rw [if_neg h, h1, h2]; simp

end Go.Proofs.Ytdniecpijkhpnaa.Pure
