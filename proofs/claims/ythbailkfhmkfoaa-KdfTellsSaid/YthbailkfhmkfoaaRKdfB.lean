/-
  Walks through layer 6 of the document: Chain. For every store and every names.
-/
import Derived.Test.YthbailkfhmkfoaaRKdf
import Derived.Test.YthbailkfhmkfoaaKdfB
namespace Go.Proofs.Ythbailkfhmkfoaa
open Go.RowKit

set_option maxRecDepth 100000 in
set_option maxHeartbeats 2000000 in
theorem rchain_bad {W w : World} {Rs : List Res} {b : Nat} {L : List T} {m : Int} (k n times : Int) (hbad : ¬ (getB L k = true ∧ 0 ≤ times ∧ times ≤ 1000)) (h : Hd W w (RSto b L m :: Rs)) :
    Calls Try.prog 46 #[.pointer (some ⟨b, 0, none⟩), .int .i64 k, .int .u64 n, .int .i64 times] w fun e w' => e = .returned (.tuple #[.int .i64 0, .int .i64 1]) ∧ Hd W w' (RSto b L m :: Rs) := by
  have H := hid h
  clear h
  obtain ⟨tk, ts, tn, ta, tb, tc, hq⟩ : ∃ k2 s2 n2 a2 b2 c2, getT L k = ⟨k2, s2, n2, a2, b2, c2⟩ := ⟨_, _, _, _, _, _, rfl⟩
  obtain ⟨is, hi⟩ : ∃ is, getB L k = is := ⟨_, rfl⟩
  have Ht := hid hq
  have hex : is = false ∨ (is = true ∧ decide (times < 0) = true) ∨ (is = true ∧ decide (times < 0) = false ∧ decide (1000 < times) = true) := by
    rw [hi] at hbad
    cases is with
    | false => exact .inl rfl
    | true =>
      by_cases h0 : times < 0
      · exact .inr (.inl ⟨rfl, by simpa using h0⟩)
      · exact .inr (.inr ⟨rfl, by simpa using h0, by simp; exact Classical.byContradiction fun hh => hbad ⟨rfl, by omega, by omega⟩⟩)
  have Hi := hid hi
  clear hq hi hbad
  rcases hex with rfl | ⟨rfl, f0⟩ | ⟨rfl, f0, f1⟩
  all_goals
    go_enter Try.func46, Try.ntmps46
    go_wp2_with fail
    refine (rget_c k H.out).mono ?_
    rw [Ht.out, Hi.out]
    simp only [T.val]
    rintro e w1 ⟨rfl, h1⟩
    have H1 := hid h1
    clear h1 H
    go_wp2_with fail
    go_ret2
    exact ⟨rfl, by first | exact H1.out.al | exact H1.out⟩

set_option maxRecDepth 100000 in
set_option maxHeartbeats 4000000 in
theorem rchain_ok {W : World} {Rs : List Res} {b : Nat} {m : Int} (n : Int) : ∀ (N : Nat) (w : World) (L : List T) (k : Int), N ≤ 1000 → getB L k = true → Hd W w (RSto b L m :: Rs) →
    Calls Try.prog 46 #[.pointer (some ⟨b, 0, none⟩), .int .i64 k, .int .u64 n, .int .i64 N] w fun e w' => e = .returned (.tuple #[.int .i64 (chainN m n N L k).1, .int .i64 (chainN m n N L k).2.1]) ∧ Hd W w' (RSto b (chainN m n N L k).2.2 m :: Rs)
  | 0, w, L, k, _, hb, h => by
    have H := hid h
    have Hb := hid hb
    clear h hb
    obtain ⟨tk, ts, tn, ta, tb, tc, hq⟩ : ∃ k2 s2 n2 a2 b2 c2, getT L k = ⟨k2, s2, n2, a2, b2, c2⟩ := ⟨_, _, _, _, _, _, rfl⟩
    have Ht := hid hq
    clear hq
    go_enter Try.func46, Try.ntmps46
    go_wp2_with fail
    refine (rget_c k H.out).mono ?_
    rw [Ht.out, Hb.out]
    simp only [T.val]
    rintro e w1 ⟨rfl, h1⟩
    have H1 := hid h1
    clear h1 H
    go_wp2_with fail
    go_ret2
    exact ⟨rfl, H1.out.al⟩
  | N + 1, w, L, k, hN, hb, h => by
    have H := hid h
    have Hb := hid hb
    have ih := @rchain_ok W Rs b m n N
    have Ih := hid ih
    clear h hb ih
    obtain ⟨tk, ts, tn, ta, tb, tc, hq⟩ : ∃ k2 s2 n2 a2 b2 c2, getT L k = ⟨k2, s2, n2, a2, b2, c2⟩ := ⟨_, _, _, _, _, _, rfl⟩
    have Ht := hid hq
    obtain ⟨r1, r2, L2, hq2⟩ : ∃ r1 r2 L2, put m L (keyT k n) = (r1, r2, L2) := ⟨_, _, _, rfl⟩
    have Hq := hid hq2
    have hc : chainN m n (N + 1) L k = if r2 = 0 then chainN m n N L2 r1 else (0, r2, L2) := by rw [chainN, hq2]
    rw [hc]
    rw [show ((N + 1 : Nat) : Int) = (N : Int) + 1 by omega]
    have f0 : decide ((N : Int) + 1 < 0) = false := by simp; omega
    have f1 : decide (1000 < (N : Int) + 1) = false := by simp; omega
    have f2 : ((N : Int) + 1 == 0) = false := by simp; omega
    have f3 : (N : Int) + 1 - 1 = (N : Int) := by omega
    have f4 : (N : Int) ≤ 1000 := by omega
    have f5 : (0 : Int) ≤ (N : Int) := by omega
    clear hq hq2 hc
    by_cases hr : r2 = 0
    · have d2 : (r2 != 0) = false := by simpa using hr
      rw [if_pos hr]
      have hgb : getB L2 r1 = true := (put_at (by rw [Hq.out, hr])).getT.2
      have Hgb := hid hgb
      clear hr hgb
      go_enter Try.func46, Try.ntmps46
      go_wp2_with fail
      refine (rget_c k H.out).mono ?_
      rw [Ht.out, Hb.out]
      simp only [T.val]
      rintro e w1 ⟨rfl, h1⟩
      have H1 := hid h1
      clear h1 H
      go_wp2_with fail
      refine (rderive_c k n Hq H1.out.al).mono ?_
      rintro e w2 ⟨rfl, h2⟩
      have H2 := hid h2
      clear h2 H1
      go_wp2_with fail
      refine (Ih.out _ L2 r1 (by omega) Hgb.out H2.out).mono ?_
      obtain ⟨q1, q2, q3, hq⟩ : ∃ q1 q2 q3, chainN m n N L2 r1 = (q1, q2, q3) := ⟨_, _, _, rfl⟩
      have Hqq := hid hq
      rw [hq]
      clear hq
      rintro e w3 ⟨rfl, h3⟩
      have H3 := hid h3
      clear h3 H2
      go_wp2_with fail
      go_ret2
      rw [Hqq.out]
      exact ⟨rfl, H3.out⟩
    · have d2 : (r2 != 0) = true := by simpa using hr
      rw [if_neg hr]
      clear hr
      go_enter Try.func46, Try.ntmps46
      go_wp2_with fail
      refine (rget_c k H.out).mono ?_
      rw [Ht.out, Hb.out]
      simp only [T.val]
      rintro e w1 ⟨rfl, h1⟩
      have H1 := hid h1
      clear h1 H
      go_wp2_with fail
      refine (rderive_c k n Hq H1.out.al).mono ?_
      rintro e w2 ⟨rfl, h2⟩
      have H2 := hid h2
      clear h2 H1
      go_wp2_with fail
      go_ret2
      exact ⟨rfl, H2.out⟩

theorem rchain_calls {W w : World} {Rs : List Res} {b : Nat} {L : List T} {m : Int} (k n times : Int) (h : Hd W w (RSto b L m :: Rs)) :
    Calls Try.prog 46 #[.pointer (some ⟨b, 0, none⟩), .int .i64 k, .int .u64 n, .int .i64 times] w fun e w' => e = .returned (.tuple #[.int .i64 (chain6 m L k n times).1, .int .i64 (chain6 m L k n times).2.1]) ∧ Hd W w' (RSto b (chain6 m L k n times).2.2 m :: Rs) := by
  by_cases hg : getB L k = true ∧ 0 ≤ times ∧ times ≤ 1000
  · obtain ⟨N, rfl⟩ : ∃ N : Nat, times = (N : Int) := ⟨times.toNat, by omega⟩
    have e0 : chain6 m L k n (N : Int) = chainN m n N L k := by unfold chain6; rw [if_pos hg, Int.toNat_natCast]
    rw [e0]
    exact rchain_ok n N w L k (by omega) hg.1 h
  · have e0 : chain6 m L k n times = (0, 1, L) := by unfold chain6; rw [if_neg hg]
    rw [e0]
    exact rchain_bad k n times hg h

end Go.Proofs.Ythbailkfhmkfoaa
