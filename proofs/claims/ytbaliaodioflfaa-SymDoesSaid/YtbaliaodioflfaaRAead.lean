/-
  Walks through layer 5 of the document. For every store and every names.
-/
import Derived.Test.YtbaliaodioflfaaHd2
import Derived.Test.YtbaliaodioflfaaPureL
import Derived.Test.YtbaliaodioflfaaAead
namespace Go.Proofs.Ytbaliaodioflfaa
open Go.RowKit

set_option maxRecDepth 100000 in
set_option maxHeartbeats 1000000 in
theorem rseal_calls {W w : World} {Rs : List Res} {b : Nat} {L : List T} {m : Int} (k n c d : Int) (h : Hd W w (RSto b L m :: Rs)) :
    Calls Try.prog 76 #[.pointer (some ⟨b, 0, none⟩), .int .i64 k, .int .u64 n, .int .i64 c, .int .i64 d] w fun e w' => e = .returned (.tuple #[.int .i64 (put m L (seaT k n c d)).1, .int .i64 (put m L (seaT k n c d)).2.1]) ∧ Hd W w' (RSto b (put m L (seaT k n c d)).2.2 m :: Rs) := by
  obtain ⟨r1, r2, L2, hq⟩ : ∃ r1 r2 L2, put m L (seaT k n c d) = (r1, r2, L2) := ⟨_, _, _, rfl⟩
  rw [hq]
  have Hq := hid hq
  have H := hid h
  clear hq h
  go_enter Try.func76, Try.ntmps76
  go_wp2_with fail
  refine (rput_c 10 ⟨#[]⟩ n k c d Hq (by first | exact H.out | exact H.out.al | exact H.out.al.al | exact H.out.al.al.al | exact H.out.al.al.al.al)).mono ?_
  rintro e w1 ⟨rfl, h1⟩
  replace H := hid h1
  clear h1
  go_wp2_with fail
  go_ret2
  exact ⟨rfl, H.out⟩

theorem rseal_c {W w : World} {Rs : List Res} {b : Nat} {L : List T} {m : Int} (k n c d : Int) {r1 r2 : Int} {L2 : List T} (hq : Hid (put m L (seaT k n c d) = (r1, r2, L2))) (h : Hd W w (RSto b L m :: Rs)) :
    Calls Try.prog 76 #[.pointer (some ⟨b, 0, none⟩), .int .i64 k, .int .u64 n, .int .i64 c, .int .i64 d] w fun e w' => e = .returned (.tuple #[.int .i64 r1, .int .i64 r2]) ∧ Hd W w' (RSto b L2 m :: Rs) := by
  have := rseal_calls k n c d h
  rw [hq.out] at this
  exact this

set_option maxHeartbeats 1000000 in
theorem rthere_c {W w : World} {Rs : List Res} {b : Nat} {L : List T} {m : Int} (x : Int) (h : Hd W w (RSto b L m :: Rs)) :
    Calls Try.prog 100 #[.pointer (some ⟨b, 0, none⟩), .int .i64 x] w fun e w' => e = .returned (.bool (getB L x)) ∧ Hd W w' (RSto b L m :: Rs) := by
  obtain ⟨a, cap, hs⟩ := h.rsto
  have hl : L.length ≤ 1048576 := by have := hs.ok.m1; have := hs.ok.len; omega
  have c0 := hs.c0
  have H := hid h
  clear h hs
  by_cases h1 : 1 ≤ x
  · by_cases h2 : x ≤ L.length
    · have Hg : Hid (getB L x = true) := hid (In.getB ⟨h1, h2⟩)
      have d1 : decide (1 ≤ x) = true := by simpa using h1
      have d2 : decide (x ≤ (L.length : Int)) = true := by simpa using h2
      go_enter Try.func100, Try.ntmps100
      go_wp2_with fail
      go_ret
      rw [Hg.out]
      exact ⟨rfl, H.out⟩
    · have Hg : Hid (getB L x = false) := hid (getT_out (.inr (by omega))).2
      have d1 : decide (1 ≤ x) = true := by simpa using h1
      have d2 : decide (x ≤ (L.length : Int)) = false := by simpa using h2
      go_enter Try.func100, Try.ntmps100
      go_wp2_with fail
      go_ret
      rw [Hg.out]
      exact ⟨rfl, H.out⟩
  · have Hg : Hid (getB L x = false) := hid (getT_out (.inl (by omega))).2
    have d1 : decide (1 ≤ x) = false := by simpa using h1
    go_enter Try.func100, Try.ntmps100
    go_wp2_with fail
    go_ret
    rw [Hg.out]
    exact ⟨rfl, H.out⟩

set_option maxRecDepth 100000 in
set_option maxHeartbeats 4000000 in
theorem ropen_calls {W w : World} {Rs : List Res} {b : Nat} {L : List T} {m : Int} (x n y z : Int) (h : Hd W w (RSto b L m :: Rs)) :
    Calls Try.prog 78 #[.pointer (some ⟨b, 0, none⟩), .int .i64 x, .int .u64 n, .int .i64 y, .int .i64 z] w fun e w' => e = .returned (.tuple #[.int .i64 (open5 L x n y z).1, .int .i64 (open5 L x n y z).2]) ∧ Hd W w' (RSto b L m :: Rs) := by
  obtain ⟨a0, cap0, hs⟩ := h.rsto
  have hl : L.length ≤ 1048576 := by have := hs.ok.m1; have := hs.ok.len; omega
  have Hs := hid hs
  clear hs
  have H := hid h
  clear h
  obtain ⟨i1, hq⟩ : ∃ i1, getB L x = i1 := ⟨_, rfl⟩
  have Hi1 := hid hq
  clear hq
  obtain ⟨i2, hq⟩ : ∃ i2, getB L y = i2 := ⟨_, rfl⟩
  have Hi2 := hid hq
  clear hq
  obtain ⟨i3, hq⟩ : ∃ i3, getB L z = i3 := ⟨_, rfl⟩
  have Hi3 := hid hq
  clear hq
  obtain ⟨R, hR⟩ : ∃ R, open5 L x n y z = R := ⟨_, rfl⟩
  rw [hR]
  have HR := hid hR
  clear hR
  rcases i1 with _ | _
  · skip
    go_enter Try.func78, Try.ntmps78
    go_wp2_with fail
    refine (rthere_c x (by first | exact H.out | exact H.out.al | exact H.out.al.al | exact H.out.al.al.al | exact H.out.al.al.al.al)).mono ?_
    rw [Hi1.out]
    rintro e w1 ⟨rfl, h1⟩
    replace H := hid h1
    clear h1
    go_wp2_with fail
    go_ret2
    have hR := HR.out
    unfold open5 at hR
    simp [Hi1.out] at hR
    subst hR
    exact ⟨rfl, (by first | exact H.out | exact H.out.al | exact H.out.al.al | exact H.out.al.al.al | exact H.out.al.al.al.al)⟩
  rcases i2 with _ | _
  · skip
    go_enter Try.func78, Try.ntmps78
    go_wp2_with fail
    refine (rthere_c x (by first | exact H.out | exact H.out.al | exact H.out.al.al | exact H.out.al.al.al | exact H.out.al.al.al.al)).mono ?_
    rw [Hi1.out]
    rintro e w2 ⟨rfl, h1⟩
    replace H := hid h1
    clear h1
    go_wp2_with fail
    refine (rthere_c y (by first | exact H.out | exact H.out.al | exact H.out.al.al | exact H.out.al.al.al | exact H.out.al.al.al.al)).mono ?_
    rw [Hi2.out]
    rintro e w3 ⟨rfl, h1⟩
    replace H := hid h1
    clear h1
    go_wp2_with fail
    go_ret2
    have hR := HR.out
    unfold open5 at hR
    simp [Hi2.out] at hR
    subst hR
    exact ⟨rfl, (by first | exact H.out | exact H.out.al | exact H.out.al.al | exact H.out.al.al.al | exact H.out.al.al.al.al)⟩
  rcases i3 with _ | _
  · skip
    go_enter Try.func78, Try.ntmps78
    go_wp2_with fail
    refine (rthere_c x (by first | exact H.out | exact H.out.al | exact H.out.al.al | exact H.out.al.al.al | exact H.out.al.al.al.al)).mono ?_
    rw [Hi1.out]
    rintro e w4 ⟨rfl, h1⟩
    replace H := hid h1
    clear h1
    go_wp2_with fail
    refine (rthere_c y (by first | exact H.out | exact H.out.al | exact H.out.al.al | exact H.out.al.al.al | exact H.out.al.al.al.al)).mono ?_
    rw [Hi2.out]
    rintro e w5 ⟨rfl, h1⟩
    replace H := hid h1
    clear h1
    go_wp2_with fail
    refine (rthere_c z (by first | exact H.out | exact H.out.al | exact H.out.al.al | exact H.out.al.al.al | exact H.out.al.al.al.al)).mono ?_
    rw [Hi3.out]
    rintro e w6 ⟨rfl, h1⟩
    replace H := hid h1
    clear h1
    go_wp2_with fail
    go_ret2
    have hR := HR.out
    unfold open5 at hR
    simp [Hi3.out] at hR
    subst hR
    exact ⟨rfl, (by first | exact H.out | exact H.out.al | exact H.out.al.al | exact H.out.al.al.al | exact H.out.al.al.al.al)⟩
  have hz : 1 ≤ z ∧ z ≤ L.length := Classical.byContradiction fun hh => by
    have := (getT_out (L := L) (x := z) (by omega)).2
    rw [Hi3.out] at this
    exact Bool.noConfusion this
  obtain ⟨j, hj, rfl⟩ := nat_of_range (x := z) (n := L.length) hz.1 hz.2
  obtain ⟨t, ht⟩ : ∃ t, L[j]? = some t := ⟨L[j]'hj, List.getElem?_eq_getElem _⟩
  have Ht := hid (getT_in ht).1
  obtain ⟨tk, ts, tn, ta, tb, tc⟩ := t
  have hc : ∀ w', Hd W w' (RSto b L m :: Rs) → ∃ a cap g, w'.cell? ⟨b, 0, none⟩ = some (.slice a L.length cap) ∧ a = some ⟨g, 0, none⟩ ∧ ∀ i v, (T.cells ⟨tk, ts, tn, ta, tb, tc⟩)[i]? = some v → w'.cell? ⟨g, j * 6 + i, none⟩ = some v := fun w' h' => by
    obtain ⟨a, cap, hs'⟩ := h'.rsto
    obtain ⟨g, hg, _, hcc⟩ := hs'.cl j _ ht
    exact ⟨a, cap, g, hs'.c0, hg, hcc⟩
  have HC := hid hc
  have hj0 : (0 : Int) ≤ (j : Int) := by omega
  have hj1 : (j : Int) < (L.length : Int) := by omega
  have e1 : (j : Int) + 1 - 1 = j := by omega
  have hne : ∀ w, (binOp .neq 122 (.agg #[.int .i64 tk, .string ts, .int .u64 tn, .int .i64 ta, .int .i64 tb, .int .i64 tc]) (.agg #[.int .i64 10, .string ⟨#[]⟩, .int .u64 n, .int .i64 x, .int .i64 y, .int .i64 tc])).run Try.prog w = .ok (.bool (!decide ((⟨tk, ts, tn, ta, tb, tc⟩ : T) = seaT x n y tc))) w := fun w => rneq_T ⟨tk, ts, tn, ta, tb, tc⟩ (seaT x n y tc) w
  clear hc hz ht
  by_cases hE : (⟨tk, ts, tn, ta, tb, tc⟩ : T) = seaT x n y tc
  · rw [decide_eq_true hE] at hne
    have HE := hid hE
    clear hE
    go_enter Try.func78, Try.ntmps78
    go_wp2_with fail
    refine (rthere_c x (by first | exact H.out | exact H.out.al | exact H.out.al.al | exact H.out.al.al.al | exact H.out.al.al.al.al)).mono ?_
    rw [Hi1.out]
    rintro e w7 ⟨rfl, h1⟩
    replace H := hid h1
    clear h1
    go_wp2_with fail
    refine (rthere_c y (by first | exact H.out | exact H.out.al | exact H.out.al.al | exact H.out.al.al.al | exact H.out.al.al.al.al)).mono ?_
    rw [Hi2.out]
    rintro e w8 ⟨rfl, h1⟩
    replace H := hid h1
    clear h1
    go_wp2_with fail
    refine (rthere_c ((j : Int) + 1) (by first | exact H.out | exact H.out.al | exact H.out.al.al | exact H.out.al.al.al | exact H.out.al.al.al.al)).mono ?_
    rw [Hi3.out]
    rintro e w9 ⟨rfl, h1⟩
    obtain ⟨a1, cap1, g, c0, rfl, hcc⟩ := HC.out _ h1
    replace H := hid h1
    have g0 := hcc 0 _ rfl
    have g1 := hcc 1 _ rfl
    have g2 := hcc 2 _ rfl
    have g3 := hcc 3 _ rfl
    have g4 := hcc 4 _ rfl
    have g5 := hcc 5 _ rfl
    simp only [Nat.add_zero] at g0
    clear h1 hcc
    go_wp2_with fail
    go_ret2
    have hR := HR.out
    unfold open5 at hR
    rw [if_pos ⟨Hi1.out, Hi2.out, Hi3.out⟩, Ht.out] at hR
    dsimp only at hR
    rw [if_pos HE.out] at hR
    subst hR
    exact ⟨rfl, (by first | exact H.out | exact H.out.al | exact H.out.al.al | exact H.out.al.al.al | exact H.out.al.al.al.al)⟩
  · rw [decide_eq_false hE] at hne
    have HE := hid hE
    clear hE
    go_enter Try.func78, Try.ntmps78
    go_wp2_with fail
    refine (rthere_c x (by first | exact H.out | exact H.out.al | exact H.out.al.al | exact H.out.al.al.al | exact H.out.al.al.al.al)).mono ?_
    rw [Hi1.out]
    rintro e w10 ⟨rfl, h1⟩
    replace H := hid h1
    clear h1
    go_wp2_with fail
    refine (rthere_c y (by first | exact H.out | exact H.out.al | exact H.out.al.al | exact H.out.al.al.al | exact H.out.al.al.al.al)).mono ?_
    rw [Hi2.out]
    rintro e w11 ⟨rfl, h1⟩
    replace H := hid h1
    clear h1
    go_wp2_with fail
    refine (rthere_c ((j : Int) + 1) (by first | exact H.out | exact H.out.al | exact H.out.al.al | exact H.out.al.al.al | exact H.out.al.al.al.al)).mono ?_
    rw [Hi3.out]
    rintro e w12 ⟨rfl, h1⟩
    obtain ⟨a1, cap1, g, c0, rfl, hcc⟩ := HC.out _ h1
    replace H := hid h1
    have g0 := hcc 0 _ rfl
    have g1 := hcc 1 _ rfl
    have g2 := hcc 2 _ rfl
    have g3 := hcc 3 _ rfl
    have g4 := hcc 4 _ rfl
    have g5 := hcc 5 _ rfl
    simp only [Nat.add_zero] at g0
    clear h1 hcc
    go_wp2_with fail
    go_ret2
    have hR := HR.out
    unfold open5 at hR
    rw [if_pos ⟨Hi1.out, Hi2.out, Hi3.out⟩, Ht.out] at hR
    dsimp only at hR
    rw [if_neg HE.out] at hR
    subst hR
    exact ⟨rfl, (by first | exact H.out | exact H.out.al | exact H.out.al.al | exact H.out.al.al.al | exact H.out.al.al.al.al)⟩

theorem ropen_c {W w : World} {Rs : List Res} {b : Nat} {L : List T} {m : Int} (x n y z : Int) {p e1 : Int} (hq : Hid (open5 L x n y z = (p, e1))) (h : Hd W w (RSto b L m :: Rs)) :
    Calls Try.prog 78 #[.pointer (some ⟨b, 0, none⟩), .int .i64 x, .int .u64 n, .int .i64 y, .int .i64 z] w fun e w' => e = .returned (.tuple #[.int .i64 p, .int .i64 e1]) ∧ Hd W w' (RSto b L m :: Rs) := by
  have := ropen_calls x n y z h
  rw [hq.out] at this
  exact this



end Go.Proofs.Ytbaliaodioflfaa
