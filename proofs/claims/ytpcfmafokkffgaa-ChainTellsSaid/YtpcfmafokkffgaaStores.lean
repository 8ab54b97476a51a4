/-
  Walks through what the statements share: Stores, which puts terms into a store and into the document's. For every list of terms.
-/
import Derived.Test.YtpcfmafokkffgaaRefC
namespace Go.Proofs.Ytpcfmafokkffgaa
open Go.RowKit

theorem put_len (m : Int) (L : List T) (t : T) : (put m L t).2.2.length ≤ L.length + 1 := by
  unfold put
  split
  · cases find t L with
    | some i => simp
    | none => simp only []; split <;> simp
  · simp

set_option maxRecDepth 100000 in
set_option maxHeartbeats 8000000 in
theorem stores_calls {W w : World} {Rs : List Res} (h : Hd W w Rs) (ad : Option Addr) (len cap : Nat) (ts : List T) (hlen : len = ts.length) (hmax : len ≤ maxLen) (hts : TermsIn W ad ts) (most : Int) (h0 : 0 ≤ most) :
    Calls Try.prog 17 #[.slice ad len cap, .int .i64 most] w fun e w' => ∃ b b' L, e = .returned (.tuple #[.pointer (some ⟨b, 0, none⟩), .pointer (some ⟨b', 0, none⟩)]) ∧ Good L ∧ (L.length : Int) ≤ most ∧ Hd W w' (Sto b L 1000 :: RSto b' L 1000 :: Rs) := by
  have Hlen := hid hlen
  have Hts := hid hts
  have Hw := hid h
  clear hts hlen h
  unfold maxLen at hmax
  go_enter Try.func17, Try.ntmps17
  go_wp2_with fail
  refine (new_calls Hw.out (by decide) (by decide)).mono ?_
  rintro e w1 ⟨b, rfl, hd1⟩
  have H := hid hd1
  clear hd1
  go_wp2_with fail
  refine (rnew_calls H.out (by decide) (by decide)).mono ?_
  rintro e w2 ⟨b', rfl, hd2⟩
  have H2 := hid hd2.swap
  clear hd2 H
  go_wp2_with fail
  go_loopw [10] (fun i wr => ∃ j : Nat, j ≤ len ∧ (j : Int) ≤ most ∧ i = .int .i64 j ∧ ∃ L : List T, L.length ≤ j ∧ Hid (Hd W wr (Sto b L 1000 :: RSto b' L 1000 :: Rs))) (fun i _ => len - (intOf i).toNat)
  case atStart => exact ⟨0, Nat.zero_le _, by omega, rfl, [], Nat.le_refl _, H2⟩
  case round =>
    obtain ⟨j, hj, hjm, rfl, L, hL, HL⟩ := hrel
    clear H2
    by_cases hlt : j < len ∧ (j : Int) < most
    · have hd1 : decide (j < len) = true := by simpa using hlt.1
      have hd2 : decide ((j : Int) < most) = true := by simpa using hlt.2
      obtain ⟨t, ht⟩ : ∃ t, ts[j]? = some t := ⟨ts[j]'(by rw [← Hlen.out]; exact hlt.1), List.getElem?_eq_getElem _⟩
      obtain ⟨g, o, rfl, hsz, hcell⟩ := (Hts.out.later HL.out.below) j t ht
      obtain ⟨k, s, n, a, b2, c⟩ := t
      have c0 := hcell 0 _ rfl
      have c1 := hcell 1 _ rfl
      have c2 := hcell 2 _ rfl
      have c3 := hcell 3 _ rfl
      have c4 := hcell 4 _ rfl
      have c5 := hcell 5 _ rfl
      simp only [Nat.add_zero] at c0
      have C0 := hid c0
      have C1 := hid c1
      have C2 := hid c2
      have C3 := hid c3
      have C4 := hid c4
      have C5 := hid c5
      have hj0 : (0 : Int) ≤ (j : Int) := by omega
      have hj1 : (j : Int) < (len : Int) := by omega
      have Ht := hid ht
      clear hcell ht
      go_wp2_with fail
      refine (cut_calls k s n a b2 c _ hsz).mono ?_
      obtain ⟨k1, s1, n1, a1, b1, c1', hcut⟩ : ∃ k1 s1 n1 a1 b1 c1, T.cut ⟨k, s, n, a, b2, c⟩ = ⟨k1, s1, n1, a1, b1, c1⟩ := ⟨_, _, _, _, _, _, rfl⟩
      have Hcut := hid hcut
      rw [hcut]
      simp only [T.val]
      rintro e w3 ⟨rfl, hb3⟩
      have H3 := hid (HL.out.still hb3)
      clear hb3 c0 c1 c2 c3 c4 c5 C0 C1 C2 C3 C4 C5 hcut
      go_wp2_with fail
      refine (put_calls k1 s1 n1 a1 b1 c1' H3.out).mono ?_
      obtain ⟨r1, r2, L2, hput⟩ : ∃ r1 r2 L2, put 1000 L ⟨k1, s1, n1, a1, b1, c1'⟩ = (r1, r2, L2) := ⟨_, _, _, rfl⟩
      have hpl := put_len 1000 L ⟨k1, s1, n1, a1, b1, c1'⟩
      have Hput := hid hput
      rw [hput] at hpl ⊢
      simp only at hpl
      rintro e w4 ⟨rfl, h4⟩
      have H4 := hid h4.swap
      clear h4 hput H3
      obtain ⟨g', o', e', _, hcell⟩ := (Hts.out.later H4.out.below) j _ Ht.out
      simp only [Option.some.injEq, Addr.mk.injEq, and_true] at e'
      obtain ⟨rfl, rfl⟩ := e'
      have c0 := hcell 0 _ rfl
      have c1 := hcell 1 _ rfl
      have c2 := hcell 2 _ rfl
      have c3 := hcell 3 _ rfl
      have c4 := hcell 4 _ rfl
      have c5 := hcell 5 _ rfl
      simp only [Nat.add_zero] at c0
      clear hcell
      go_wp2_with fail
      refine (cut_calls k s n a b2 c _ hsz).mono ?_
      rw [Hcut.out]
      simp only [T.val]
      rintro e w5 ⟨rfl, hb5⟩
      have H5 := hid (H4.out.still hb5)
      clear hb5 c0 c1 c2 c3 c4 c5 H4
      go_wp2_with fail
      refine (ref_calls k1 s1 n1 a1 b1 c1' _).mono ?_
      simp only [T.val]
      rintro e w6 ⟨rfl, hb6⟩
      have H6 := hid (H5.out.still hb6)
      clear hb6 H5
      go_wp2_with fail
      refine (rput_calls k1 s1 n1 a1 b1 c1' H6.out).mono ?_
      rw [Hput.out]
      rintro e w7 ⟨rfl, h7⟩
      have H7 := hid h7.swap
      clear h7 H6
      go_wp2_with fail
      go_roundw
      case rel => exact ⟨j + 1, by omega, by omega, by go_num, L2, by omega, H7⟩
      case measure => simp [intOf]; omega
    · have hex : decide (j < len) = false ∨ (decide (j < len) = true ∧ decide ((j : Int) < most) = false) := by
        by_cases h : j < len
        · right; exact ⟨by simpa using h, by simp; omega⟩
        · left; simpa using h
      have hg : Good L := by
        obtain ⟨lb, db, mb, lc, dc, hs⟩ := HL.out.sto
        exact hs.good
      have Hg := hid hg
      have HLm : Hid ((L.length : Int) ≤ most) := hid (by omega)
      clear hlt hg
      rcases hex with hd1 | ⟨hd1, hd2⟩
      · go_wp2_with fail
        go_ret2
        exact ⟨b, b', L, rfl, Hg.out, HLm.out, HL.out⟩
      · go_wp2_with fail
        go_ret2
        exact ⟨b, b', L, rfl, Hg.out, HLm.out, HL.out⟩
end Go.Proofs.Ytpcfmafokkffgaa
