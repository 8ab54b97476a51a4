/-
  TermDeep returns true, and writes nothing that was there. For every input.
-/
import Derived.Test.YtfhpgcgiogmlgaaRoom
import Derived.Test.YtfhpgcgiogmlgaaPureD
import Derived.Test.YtfhpgcgiogmlgaaLawB
namespace Go.Proofs.Ytfhpgcgiogmlgaa
open Go.RowKit

set_option maxRecDepth 100000 in
set_option maxHeartbeats 16000000 in
theorem termDeep_walk (ad : Option Addr) (len cap : Nat) (ts : List T) (W : World) (hlen : len = ts.length) (hmax : len ≤ maxLen) (hts : TermsIn W ad ts) :
    Calls Try.prog 7 #[.slice ad len cap] W fun e w' => e = .returned (.bool true) ∧ Below W.heap.size W w' := by
  have Hlen := hid hlen
  have Hts := hid hts
  have Hmax := hid hmax
  clear hts hlen hmax
  go_enter Try.func7, Try.ntmps7
  go_wp2_with fail
  refine (stores_calls (Hd.refl W) ad len cap ts Hlen.out Hmax.out Hts.out 40 (by decide)).mono ?_
  rintro e w1 ⟨b, b', L, rfl, hg, hl, hd⟩
  have H0 := hid hd
  have Hg := hid hg
  clear hd hg
  go_wp2_with fail
  go_loopw [5] (fun i wr => ∃ j : Nat, j ≤ L.length ∧ i = .int .i64 ((j : Int) + 1) ∧ Hid (Hd W wr [Sto b L 1000, RSto b' L 1000])) (fun i _ => (L.length + 1) - (intOf i).toNat)
  case atStart => exact ⟨0, Nat.zero_le _, rfl, H0⟩
  case round =>
    clear H0
    obtain ⟨j, hj, rfl, H⟩ := hrel
    by_cases hlt : j < L.length
    · have d1 : decide ((j : Int) + 1 ≤ (L.length : Int)) = true := by simp; omega
      have d2 : decide (j + 1 ≤ L.length) = true := by simp; omega
      have d3 : decide (j < L.length) = true := by simp; omega
      have d4 : decide ((j : Int) + 1 ≤ 40) = true := by simp; omega
      obtain ⟨t, ht⟩ : ∃ t, L[j]? = some t := ⟨L[j]'(by omega), List.getElem?_eq_getElem _⟩
      have hgt := getT_in ht
      have hdp := depth_at Hg.out ht
      have hpr : ∀ p ∈ t.parts, 1 ≤ p ∧ p ≤ (L.length : Int) := fun p hp => by
        have := (Hg.out.may j t ht).2.2.2.2.2 p hp
        omega
      rw [deepP_eq hpr] at hdp
      obtain ⟨k, s, n, a, b2, c⟩ := t
      have Hgt := hid hgt
      have Hdp := hid hdp
      clear ht hgt hdp hpr
      go_wp2_with fail
      refine (len_at H.out).mono ?_
      rintro e w' ⟨rfl, rfl⟩
      go_wp2_with fail
      obtain ⟨lb, db, mb, lc, dc, hs⟩ := H.out.sto
      refine (get_calls _ hs).mono ?_
      rw [Hgt.out.1, Hgt.out.2]
      simp only [T.val]
      rintro e w2 ⟨rfl, hb2⟩
      replace H := hid (H.out.still hb2)
      clear hs hb2
      go_wp2_with fail
      replace H := hid (H.out.still ((Below.refl _ _).alloc (Nat.le_refl _) (.cells #[.int .i64 k, .string s, .int .u64 n, .int .i64 a, .int .i64 b2, .int .i64 c] 32)))
      refine (parts_calls k s n a b2 c _).mono ?_
      rintro e w3 ⟨pa, rfl, hn3⟩
      replace H := hid (H.out.still hn3.below)
      have Hat := hid hn3.at
      have Hpl : Hid (many k = (T.parts ⟨k, s, n, a, b2, c⟩).length) := hid (parts_length ⟨k, s, n, a, b2, c⟩).symm
      obtain ⟨ps, hps⟩ : ∃ ps, T.parts ⟨k, s, n, a, b2, c⟩ = ps := ⟨_, rfl⟩
      have hq3 := many_le k
      clear hn3
      rw [hps] at Hat Hpl Hdp
      clear hps
      generalize many k = q at *
      obtain ⟨lb, db, mb, lc, dc, hs⟩ := H.out.sto
      have Hs := hid hs
      clear hs
      have Hr := hid (deepP_range L)
      go_wp2_with fail
      go_loop [9, 10] (fun d i => ∃ r : Nat, r ≤ q ∧ i = .int .i64 r ∧ d = .int .i64 (deepP L (ps.take r))) (fun _ i => q - (intOf i).toNat)
      case atStart => exact ⟨0, Nat.zero_le _, rfl, rfl⟩
      case round =>
        obtain ⟨r, hr, rfl, rfl⟩ := hrel
        obtain ⟨h1, h2⟩ := Hr.out (ps.take r)
        by_cases hrq : r < q
        · have e1 : decide (r < q) = true := by simpa using hrq
          have hrl : r < ps.length := by rw [← Hpl.out]; exact hrq
          obtain ⟨g, o, rfl, hc⟩ := Hat.out.resolve_left fun e => by rw [e] at hrl; simp at hrl
          have c0 := hc r hrl
          have ht := deepP_take (L := L) hrl
          obtain ⟨p, hp⟩ : ∃ p, ps.getD r 0 = p := ⟨_, rfl⟩
          rw [hp] at c0 ht
          have Ht := hid ht
          have hr0 : (0 : Int) ≤ (r : Int) := by omega
          have hr1 : (r : Int) < (q : Int) := by omega
          have hD := depth_calls p Hs.out
          obtain ⟨dd, hdd⟩ : ∃ dd, depth L p = dd := ⟨_, rfl⟩
          rw [hdd] at hD Ht
          have HD := hid hD
          clear hc hrl ht hp hD hdd
          generalize hm : deepP L (ps.take r) = m at *
          clear hm
          rcases Int.lt_trichotomy m dd with hlt' | rfl | hgt'
          · have f1 : decide (m < dd) = true := by simpa using hlt'
            have f2 : decide (dd < m) = false := by simp; omega
            have f3 : decide (dd ≤ m) = false := by simp; omega
            go_wp2_with fail
            refine HD.out.mono ?_
            rintro e w' ⟨rfl, rfl⟩
            go_wp2_with fail
            all_goals
              go_round
              case rel => exact ⟨r + 1, by omega, by go_num, by rw [Ht.out]; first | rfl | (rw [Int.max_eq_right (by omega)])⟩
              case measure => simp [intOf]; omega
          · go_wp2_with fail
            refine HD.out.mono ?_
            rintro e w' ⟨rfl, rfl⟩
            go_wp2_with fail
            all_goals
              go_round
              case rel => exact ⟨r + 1, by omega, by go_num, by rw [Ht.out]; first | rfl | (rw [Int.max_self])⟩
              case measure => simp [intOf]; omega
          · have f1 : decide (m < dd) = false := by simp; omega
            have f2 : decide (dd < m) = true := by simpa using hgt'
            have f3 : decide (m ≤ dd) = false := by simp; omega
            go_wp2_with fail
            refine HD.out.mono ?_
            rintro e w' ⟨rfl, rfl⟩
            go_wp2_with fail
            all_goals
              go_round
              case rel => exact ⟨r + 1, by omega, by go_num, by rw [Ht.out]; first | rfl | (rw [Int.max_eq_left (by omega)])⟩
              case measure => simp [intOf]; omega
        · have e1 : decide (r < q) = false := by simpa using hrq
          have hre : ps.take r = ps := List.take_of_length_le (by rw [← Hpl.out]; omega)
          rw [hre] at h1 h2 ⊢
          have HD := hid (depth_calls ((j : Int) + 1) Hs.out)
          rw [Hdp.out] at HD
          clear hre
          generalize deepP L ps = m at *
          go_wp2_with fail
          refine HD.out.mono ?_
          rintro e w' ⟨rfl, rfl⟩
          go_wp2_with fail
          go_roundw
          case rel => exact ⟨j + 1, by omega, by go_num, H⟩
          case measure => simp [intOf]; omega
    · obtain rfl : j = L.length := by omega
      have d1 : decide ((L.length : Int) + 1 ≤ (L.length : Int)) = false := by simp; omega
      have d2 : decide (L.length + 1 ≤ L.length) = false := by simp
      have d3 : decide (L.length < L.length) = false := by simp
      have x1 := depth_out (L := L) (x := (L.length : Int) + 1) (.inr (by omega))
      have x2 := depth_out (L := L) (x := 0) (.inl (by decide))
      have x3 := depth_out (L := L) (x := -1) (.inl (by decide))
      obtain ⟨lb, db, mb, lc, dc, hs⟩ := H.out.sto
      have y1 : ∀ x : Later wr, Calls Try.prog 21 #[.pointer (some ⟨b, 0, none⟩), .int .i64 ((L.length : Int) + 1)] x.w fun e w' => e = .returned (.int .i64 0) ∧ x.w = w' := fun x => by { have := depth_calls ((L.length : Int) + 1) (hs.later x.below); rw [x1] at this; exact this }
      have y2 : ∀ x : Later wr, Calls Try.prog 21 #[.pointer (some ⟨b, 0, none⟩), .int .i64 0] x.w fun e w' => e = .returned (.int .i64 0) ∧ x.w = w' := fun x => by { have := depth_calls 0 (hs.later x.below); rw [x2] at this; exact this }
      have y3 : ∀ x : Later wr, Calls Try.prog 21 #[.pointer (some ⟨b, 0, none⟩), .int .i64 (-1)] x.w fun e w' => e = .returned (.int .i64 0) ∧ x.w = w' := fun x => by { have := depth_calls (-1) (hs.later x.below); rw [x3] at this; exact this }
      have Y1 := hid y1
      have Y2 := hid y2
      have Y3 := hid y3
      clear x1 x2 x3 y1 y2 y3 hs
      have q0 : (0 : Int) ≤ (L.length : Int) := by omega
      go_wp2_with fail
      refine (len_at H.out).mono ?_
      rintro e w' ⟨rfl, rfl⟩
      go_wp2_with fail
      refine (len_at H.out).mono ?_
      rintro e w' ⟨rfl, rfl⟩
      go_wp2_with fail
      refine (Y1.out ⟨_, Below.refl _ _⟩).mono ?_
      rintro e w' ⟨rfl, rfl⟩
      go_wp2_with fail
      refine (Y2.out ⟨_, Below.refl _ _⟩).mono ?_
      rintro e w' ⟨rfl, rfl⟩
      go_wp2_with fail
      refine (Y3.out ⟨_, Below.refl _ _⟩).mono ?_
      rintro e w' ⟨rfl, rfl⟩
      go_wp2_with fail
      refine (fixed2_calls H.out).mono ?_
      rintro e w' ⟨rfl, h5⟩
      have H5 := hid h5
      clear h5
      go_wp2_with fail
      go_ret
      exact ⟨rfl, H5.out.below⟩
end Go.Proofs.Ytfhpgcgiogmlgaa
