/-
  TermRoom returns true, and writes nothing that was there. For every input.
-/
import Derived.Test.YtfhpgcgiogmlgaaArgs
import Derived.Test.YtfhpgcgiogmlgaaLawB
namespace Go.Proofs.Ytfhpgcgiogmlgaa
open Go.RowKit

theorem getT_snoc (L : List T) (t : T) : getT (L ++ [t]) ((L.length : Int) + 1) = t ∧ getB (L ++ [t]) ((L.length : Int) + 1) = true :=
  getT_in (L := L ++ [t]) (i := L.length) (by simp)

set_option maxRecDepth 100000 in
set_option maxHeartbeats 8000000 in
theorem termRoom_walk (a0 : Int) (h0 : 0 ≤ a0) (h1 : a0 ≤ 255) (ad : Option Addr) (len cap : Nat) (ts : List T) (W : World) (hlen : len = ts.length) (hmax : len ≤ maxLen) (hts : TermsIn W ad ts) :
    Calls Try.prog 6 #[.int .u8 a0, .slice ad len cap] W fun e w' => e = .returned (.bool true) ∧ Below W.heap.size W w' := by
  have Hlen := hid hlen
  have Hts := hid hts
  clear hts hlen
  unfold maxLen at hmax
  have hN0 : 0 ≤ a0 % 10 := by omega
  have hN1 : a0 % 10 ≤ 9 := by omega
  go_enter Try.func6, Try.ntmps6
  go_wp2_with fail
  generalize a0 % 10 = N at *
  refine (new_calls (Hd.refl W) hN0 (by omega)).mono ?_
  rintro e w1 ⟨b, rfl, hd1⟩
  have H := hid hd1
  clear hd1
  go_wp2_with fail
  go_loopw [8] (fun i wr => ∃ j : Nat, j ≤ len ∧ i = .int .i64 j ∧ ∃ L, Hid (Hd W wr [Sto b L N])) (fun i _ => len - (intOf i).toNat)
  case atStart => exact ⟨0, Nat.zero_le _, rfl, [], H⟩
  case round =>
    obtain ⟨j, hj, rfl, L, HL⟩ := hrel
    clear H
    by_cases hlt : j < len ∧ j < 40
    · have hd1 : decide (j < len) = true := by simpa using hlt.1
      have hd2 : decide ((j : Int) < 40) = true := by simp; omega
      obtain ⟨t, ht⟩ : ∃ t, ts[j]? = some t := ⟨ts[j]'(by rw [← Hlen.out]; exact hlt.1), List.getElem?_eq_getElem _⟩
      obtain ⟨g, o, rfl, hsz, hcell⟩ := (Hts.out.later HL.out.below) j t ht
      obtain ⟨k, s, n, a, b', c⟩ := t
      have c0 := hcell 0 _ rfl
      have c1 := hcell 1 _ rfl
      have c2 := hcell 2 _ rfl
      have c3 := hcell 3 _ rfl
      have c4 := hcell 4 _ rfl
      have c5 := hcell 5 _ rfl
      simp only [Nat.add_zero] at c0
      have hj0 : (0 : Int) ≤ (j : Int) := by omega
      have hj1 : (j : Int) < (len : Int) := by omega
      obtain ⟨lb, db, mb, lc, dc, hs⟩ := HL.out.sto
      have Hs := hid hs
      have hLN := hs.len
      clear hs hcell ht hlt
      go_wp2_with fail
      refine (len_calls' Hs.out).mono ?_
      rintro e w' ⟨rfl, rfl⟩
      go_wp2_with fail
      refine (cut_calls k s n a b' c _ hsz).mono ?_
      obtain ⟨k1, s1, n1, a1, b1, c1', hcut⟩ : ∃ k1 s1 n1 a1 b1 c1, T.cut ⟨k, s, n, a, b', c⟩ = ⟨k1, s1, n1, a1, b1, c1⟩ := ⟨_, _, _, _, _, _, rfl⟩
      rw [hcut]
      simp only [T.val]
      rintro e w2 ⟨rfl, hb2⟩
      have H2 := hid (HL.out.still hb2)
      clear hb2 c0 c1 c2 c3 c4 c5 hcut Hs hsz
      go_wp2_with fail
      have hbx := hid (H2.out.box (.cells #[.int .i64 k1, .string s1, .int .u64 n1, .int .i64 a1, .int .i64 b1, .int .i64 c1'] 32)).swap
      refine (put_calls k1 s1 n1 a1 b1 c1' hbx.out).mono ?_
      rcases put_cases ⟨k1, s1, n1, a1, b1, c1'⟩ hLN with ep | ⟨i, hi, hgi, ep⟩ | ⟨hfull, ep⟩ | ⟨hroom, ep⟩
      · rw [ep]
        obtain ⟨g1, g2⟩ := getT_out (L := L) (x := 0) (.inl (by decide))
        have hd3 : decide (N < (L.length : Int)) = false := by simp; omega
        clear ep
        rintro e w3 ⟨rfl, h3⟩
        have H3 := hid h3
        clear h3
        obtain ⟨lb, db, mb, lc, dc, hs⟩ := H3.out.sto
        have Hs := hid hs
        clear hs
        go_wp2_with fail
        refine (len_calls' Hs.out).mono ?_
        rw [show (((L).length : Nat) : Int) = (L.length : Int) from by simp]
        rintro e w' ⟨rfl, rfl⟩
        go_wp2_with fail
        refine (get_calls _ Hs.out).mono ?_
        rw [g1, g2]
        simp only [T.val, zeroT]
        rintro e w4 ⟨rfl, hb4⟩
        have hbox := H3.out.swap.blk
        have d0 : w4.cell? ⟨w2.heap.size, 0, none⟩ = some (.int .i64 k1) := (hb4.cell (Array.getElem?_eq_some_iff.1 hbox).1).trans (by rw [cell_of_heap hbox]; rfl)
        have d1 : w4.cell? ⟨w2.heap.size, 1, none⟩ = some (.string s1) := (hb4.cell (Array.getElem?_eq_some_iff.1 hbox).1).trans (by rw [cell_of_heap hbox]; rfl)
        have d2 : w4.cell? ⟨w2.heap.size, 2, none⟩ = some (.int .u64 n1) := (hb4.cell (Array.getElem?_eq_some_iff.1 hbox).1).trans (by rw [cell_of_heap hbox]; rfl)
        have d3 : w4.cell? ⟨w2.heap.size, 3, none⟩ = some (.int .i64 a1) := (hb4.cell (Array.getElem?_eq_some_iff.1 hbox).1).trans (by rw [cell_of_heap hbox]; rfl)
        have d4 : w4.cell? ⟨w2.heap.size, 4, none⟩ = some (.int .i64 b1) := (hb4.cell (Array.getElem?_eq_some_iff.1 hbox).1).trans (by rw [cell_of_heap hbox]; rfl)
        have d5 : w4.cell? ⟨w2.heap.size, 5, none⟩ = some (.int .i64 c1') := (hb4.cell (Array.getElem?_eq_some_iff.1 hbox).1).trans (by rw [cell_of_heap hbox]; rfl)
        have hlt4 : w2.heap.size < w4.heap.size := Nat.lt_of_lt_of_le (Array.getElem?_eq_some_iff.1 hbox).1 hb4.size
        have H4 := hid (H3.out.still hb4)
        clear hbox hb4 Hs
        go_wp2_with fail
        go_roundw
        case rel => exact ⟨j + 1, by omega, by go_num, L, hid ((H4.out.still ((Below.refl _ _).alloc (Nat.le_refl _) _)).swap.drop)⟩
        case measure => simp [intOf]; omega
      · rw [ep]
        obtain ⟨g1, g2⟩ := getT_in hgi
        have hd3 : decide (N < (L.length : Int)) = false := by simp; omega
        clear ep hgi
        rintro e w3 ⟨rfl, h3⟩
        have H3 := hid h3
        clear h3
        obtain ⟨lb, db, mb, lc, dc, hs⟩ := H3.out.sto
        have Hs := hid hs
        clear hs
        go_wp2_with fail
        refine (len_calls' Hs.out).mono ?_
        rw [show (((L).length : Nat) : Int) = (L.length : Int) from by simp]
        rintro e w' ⟨rfl, rfl⟩
        go_wp2_with fail
        refine (get_calls _ Hs.out).mono ?_
        rw [g1, g2]
        simp only [T.val, zeroT]
        rintro e w4 ⟨rfl, hb4⟩
        have hbox := H3.out.swap.blk
        have d0 : w4.cell? ⟨w2.heap.size, 0, none⟩ = some (.int .i64 k1) := (hb4.cell (Array.getElem?_eq_some_iff.1 hbox).1).trans (by rw [cell_of_heap hbox]; rfl)
        have d1 : w4.cell? ⟨w2.heap.size, 1, none⟩ = some (.string s1) := (hb4.cell (Array.getElem?_eq_some_iff.1 hbox).1).trans (by rw [cell_of_heap hbox]; rfl)
        have d2 : w4.cell? ⟨w2.heap.size, 2, none⟩ = some (.int .u64 n1) := (hb4.cell (Array.getElem?_eq_some_iff.1 hbox).1).trans (by rw [cell_of_heap hbox]; rfl)
        have d3 : w4.cell? ⟨w2.heap.size, 3, none⟩ = some (.int .i64 a1) := (hb4.cell (Array.getElem?_eq_some_iff.1 hbox).1).trans (by rw [cell_of_heap hbox]; rfl)
        have d4 : w4.cell? ⟨w2.heap.size, 4, none⟩ = some (.int .i64 b1) := (hb4.cell (Array.getElem?_eq_some_iff.1 hbox).1).trans (by rw [cell_of_heap hbox]; rfl)
        have d5 : w4.cell? ⟨w2.heap.size, 5, none⟩ = some (.int .i64 c1') := (hb4.cell (Array.getElem?_eq_some_iff.1 hbox).1).trans (by rw [cell_of_heap hbox]; rfl)
        have hlt4 : w2.heap.size < w4.heap.size := Nat.lt_of_lt_of_le (Array.getElem?_eq_some_iff.1 hbox).1 hb4.size
        have H4 := hid (H3.out.still hb4)
        clear hbox hb4 Hs
        go_wp2_with fail
        go_roundw
        case rel => exact ⟨j + 1, by omega, by go_num, L, hid ((H4.out.still ((Below.refl _ _).alloc (Nat.le_refl _) _)).swap.drop)⟩
        case measure => simp [intOf]; omega
      · rw [ep]
        obtain ⟨g1, g2⟩ := getT_out (L := L) (x := 0) (.inl (by decide))
        have hd3 : decide (N < (L.length : Int)) = false := by simp; omega
        have hd4 : ((L.length : Int) != N) = false := by simp [hfull]
        clear ep hfull
        rintro e w3 ⟨rfl, h3⟩
        have H3 := hid h3
        clear h3
        obtain ⟨lb, db, mb, lc, dc, hs⟩ := H3.out.sto
        have Hs := hid hs
        clear hs
        go_wp2_with fail
        refine (len_calls' Hs.out).mono ?_
        rw [show (((L).length : Nat) : Int) = (L.length : Int) from by simp]
        rintro e w' ⟨rfl, rfl⟩
        go_wp2_with fail
        refine (get_calls _ Hs.out).mono ?_
        rw [g1, g2]
        simp only [T.val, zeroT]
        rintro e w4 ⟨rfl, hb4⟩
        have hbox := H3.out.swap.blk
        have d0 : w4.cell? ⟨w2.heap.size, 0, none⟩ = some (.int .i64 k1) := (hb4.cell (Array.getElem?_eq_some_iff.1 hbox).1).trans (by rw [cell_of_heap hbox]; rfl)
        have d1 : w4.cell? ⟨w2.heap.size, 1, none⟩ = some (.string s1) := (hb4.cell (Array.getElem?_eq_some_iff.1 hbox).1).trans (by rw [cell_of_heap hbox]; rfl)
        have d2 : w4.cell? ⟨w2.heap.size, 2, none⟩ = some (.int .u64 n1) := (hb4.cell (Array.getElem?_eq_some_iff.1 hbox).1).trans (by rw [cell_of_heap hbox]; rfl)
        have d3 : w4.cell? ⟨w2.heap.size, 3, none⟩ = some (.int .i64 a1) := (hb4.cell (Array.getElem?_eq_some_iff.1 hbox).1).trans (by rw [cell_of_heap hbox]; rfl)
        have d4 : w4.cell? ⟨w2.heap.size, 4, none⟩ = some (.int .i64 b1) := (hb4.cell (Array.getElem?_eq_some_iff.1 hbox).1).trans (by rw [cell_of_heap hbox]; rfl)
        have d5 : w4.cell? ⟨w2.heap.size, 5, none⟩ = some (.int .i64 c1') := (hb4.cell (Array.getElem?_eq_some_iff.1 hbox).1).trans (by rw [cell_of_heap hbox]; rfl)
        have hlt4 : w2.heap.size < w4.heap.size := Nat.lt_of_lt_of_le (Array.getElem?_eq_some_iff.1 hbox).1 hb4.size
        have H4 := hid (H3.out.still hb4)
        clear hbox hb4 Hs
        go_wp2_with fail
        go_roundw
        case rel => exact ⟨j + 1, by omega, by go_num, L, hid ((H4.out.still ((Below.refl _ _).alloc (Nat.le_refl _) _)).swap.drop)⟩
        case measure => simp [intOf]; omega
      · rw [ep]
        obtain ⟨g1, g2⟩ := getT_snoc L ⟨k1, s1, n1, a1, b1, c1'⟩
        have hd3 : decide (N < (L.length : Int) + 1) = false := by simp; omega
        have hd4 : ((L.length : Int) + 1 != (L.length : Int)) = true := by rw [bne_iff_ne]; omega
        have hL20 : (L.length : Int) ≤ 9 := by omega
        clear ep
        rintro e w3 ⟨rfl, h3⟩
        have H3 := hid h3
        clear h3
        obtain ⟨lb, db, mb, lc, dc, hs⟩ := H3.out.sto
        have Hs := hid hs
        clear hs
        go_wp2_with fail
        refine (len_calls' Hs.out).mono ?_
        rw [show (((L ++ [(⟨k1, s1, n1, a1, b1, c1'⟩ : T)]).length : Nat) : Int) = (L.length : Int) + 1 from by simp]
        rintro e w' ⟨rfl, rfl⟩
        go_wp2_with fail
        refine (get_calls _ Hs.out).mono ?_
        rw [g1, g2]
        simp only [T.val, zeroT]
        rintro e w4 ⟨rfl, hb4⟩
        have hbox := H3.out.swap.blk
        have d0 : w4.cell? ⟨w2.heap.size, 0, none⟩ = some (.int .i64 k1) := (hb4.cell (Array.getElem?_eq_some_iff.1 hbox).1).trans (by rw [cell_of_heap hbox]; rfl)
        have d1 : w4.cell? ⟨w2.heap.size, 1, none⟩ = some (.string s1) := (hb4.cell (Array.getElem?_eq_some_iff.1 hbox).1).trans (by rw [cell_of_heap hbox]; rfl)
        have d2 : w4.cell? ⟨w2.heap.size, 2, none⟩ = some (.int .u64 n1) := (hb4.cell (Array.getElem?_eq_some_iff.1 hbox).1).trans (by rw [cell_of_heap hbox]; rfl)
        have d3 : w4.cell? ⟨w2.heap.size, 3, none⟩ = some (.int .i64 a1) := (hb4.cell (Array.getElem?_eq_some_iff.1 hbox).1).trans (by rw [cell_of_heap hbox]; rfl)
        have d4 : w4.cell? ⟨w2.heap.size, 4, none⟩ = some (.int .i64 b1) := (hb4.cell (Array.getElem?_eq_some_iff.1 hbox).1).trans (by rw [cell_of_heap hbox]; rfl)
        have d5 : w4.cell? ⟨w2.heap.size, 5, none⟩ = some (.int .i64 c1') := (hb4.cell (Array.getElem?_eq_some_iff.1 hbox).1).trans (by rw [cell_of_heap hbox]; rfl)
        have hlt4 : w2.heap.size < w4.heap.size := Nat.lt_of_lt_of_le (Array.getElem?_eq_some_iff.1 hbox).1 hb4.size
        have H4 := hid (H3.out.still hb4)
        clear hbox hb4 Hs
        go_wp2_with fail
        go_roundw
        case rel => exact ⟨j + 1, by omega, by go_num, L ++ [(⟨k1, s1, n1, a1, b1, c1'⟩ : T)], hid ((H4.out.still ((Below.refl _ _).alloc (Nat.le_refl _) _)).swap.drop)⟩
        case measure => simp [intOf]; omega
    · have hex : decide (j < len) = false ∨ (decide (j < len) = true ∧ decide ((j : Int) < 40) = false) := by
        by_cases h : j < len
        · right; exact ⟨by simpa using h, by simp; omega⟩
        · left; simpa using h
      clear hlt
      rcases hex with hd1 | ⟨hd1, hd2⟩
      · go_wp2_with fail
        refine (fixed2_calls HL.out).mono ?_
        rintro e w' ⟨rfl, h5⟩
        have H5 := hid h5
        clear h5
        go_wp2_with fail
        go_ret
        exact ⟨rfl, H5.out.below⟩
      · go_wp2_with fail
        refine (fixed2_calls HL.out).mono ?_
        rintro e w' ⟨rfl, h5⟩
        have H5 := hid h5
        clear h5
        go_wp2_with fail
        go_ret
        exact ⟨rfl, H5.out.below⟩
end Go.Proofs.Ytfhpgcgiogmlgaa
