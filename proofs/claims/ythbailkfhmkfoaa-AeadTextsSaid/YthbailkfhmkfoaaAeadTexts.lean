/-
  AeadTexts returns true, and writes nothing that was there. For every input.
-/
import Derived.Test.YthbailkfhmkfoaaAeadE
import Derived.Test.YthbailkfhmkfoaaSame
import Derived.Test.YthbailkfhmkfoaaFixE
import Derived.Test.YthbailkfhmkfoaaArgsC
namespace Go.Proofs.Ythbailkfhmkfoaa
open Go.RowKit

set_option maxRecDepth 100000 in
set_option maxHeartbeats 32000000 in
theorem aeadTexts_walk (ad : Option Addr) (len cap : Nat) (ts : List T) (ad2 : Option Addr) (len2 cap2 : Nat) (zs : List (List Int)) (s : ByteArray) (W : World) (hlen : len = ts.length) (hmax : len ≤ maxLen) (hts : TermsIn W ad ts)
    (hlen2 : len2 = zs.length) (hmax2 : len2 ≤ maxLen) (hzs : RowsIn 4 .i64 W ad2 zs) (hsz : s.size ≤ maxLen) :
    Calls Try.prog 15 #[.slice ad len cap, .slice ad2 len2 cap2, .string s] W fun e w' => e = .returned (.bool true) ∧ Below W.heap.size W w' := by
  have Hlen := hid hlen
  have Hts := hid hts
  have Hmax := hid hmax
  have Hlen2 := hid hlen2
  have Hzs := hid hzs
  clear hts hlen hmax hlen2 hzs
  unfold maxLen at hmax2
  have hsz9 := hsz
  unfold maxLen at hsz9
  have hm11 : (s.extract 0 1100).size ≤ maxLen := by simp only [ByteArray.size_extract]; unfold maxLen; omega
  by_cases hs : s.size ≤ 1100
  case pos =>
    have Hsz := hid hsz
    clear hsz hm11
    go_enter Try.func15, Try.ntmps15
    go_wp2_with fail
    refine (stores_calls (Hd.refl W) ad len cap ts Hlen.out Hmax.out Hts.out 30 (by decide)).mono ?_
    rintro e w1 ⟨b, b', L0, rfl, hg, hl, hd⟩
    have H0 := hid hd
    clear hd hg hl
    go_wp2_with fail
    go_loopw [9] (fun i wr => ∃ j : Nat, j ≤ len2 ∧ i = .int .i64 j ∧ ∃ L : List T, Hid (Hd W wr [Sto b L 1000, RSto b' L 1000])) (fun i _ => len2 - (intOf i).toNat)
    case atStart => exact ⟨0, Nat.zero_le _, rfl, L0, H0⟩
    case round =>
      obtain ⟨j, hj, rfl, L, H⟩ := hrel
      clear H0
      by_cases hlt : j < len2 ∧ j < 20
      · have hd1 : decide (j < len2) = true := by simpa using hlt.1
        have hd2 : decide ((j : Int) < 20) = true := by simp; omega
        obtain ⟨z, hz⟩ : ∃ z, zs[j]? = some z := ⟨zs[j]'(by rw [← Hlen2.out]; exact hlt.1), List.getElem?_eq_getElem _⟩
        obtain ⟨hzl, hzr, g, o, rfl, hc⟩ := Hzs.out j z hz
        obtain ⟨u, v, x, y, rfl⟩ : ∃ u v x y, z = [u, v, x, y] := by
          match z, hzl with
          | [u, v, x, y], _ => exact ⟨u, v, x, y, rfl⟩
        have k0 := hc 0 u rfl
        have k1 := hc 1 v rfl
        have k2 := hc 2 x rfl
        have k3 := hc 3 y rfl
        simp only [Nat.add_zero] at k0
        have kb := World.block_lt_of_cell? W _ k0
        have c0 := (H.out.below.cell (p := ⟨g, o + j * 4, none⟩) kb).trans k0
        have c1 := (H.out.below.cell (p := ⟨g, o + j * 4 + 1, none⟩) kb).trans k1
        have c2 := (H.out.below.cell (p := ⟨g, o + j * 4 + 2, none⟩) kb).trans k2
        have c3 := (H.out.below.cell (p := ⟨g, o + j * 4 + 3, none⟩) kb).trans k3
        have hj0 : (0 : Int) ≤ (j : Int) := by omega
        have hj1 : (j : Int) < (len2 : Int) := by omega
        have hj2 : j < len2 := hlt.1
        clear hc hz hzl hzr hlt kb k0 k1 k2 k3
        go_wp2_with fail
        refine (text_e _ _ _ (s) Hsz.out (H.out.box _).unthird).mono ?_
        rintro e wa2 ⟨r20, r21, L1, rfl, Hq, h1⟩
        replace H := hid h1.swap
        clear h1 c0 c1 c2 c3
        have hk0 := H.out.third.blk
        have d0 := (cell_of_heap hk0 0).trans (show _ = some (.int .i64 u) from rfl)
        have d1 := (cell_of_heap hk0 1).trans (show _ = some (.int .i64 v) from rfl)
        have d2 := (cell_of_heap hk0 2).trans (show _ = some (.int .i64 x) from rfl)
        have d3 := (cell_of_heap hk0 3).trans (show _ = some (.int .i64 y) from rfl)
        have lt0 := (Array.getElem?_eq_some_iff.1 hk0).1
        clear hk0
        go_wp2_with fail
        refine (rtext_q _ _ _ (s) Hsz.out Hq H.out).mono ?_
        rintro e wb2 ⟨rfl, h1⟩
        replace H := hid h1.swap
        clear h1 Hq lt0 d0 d1 d2 d3
        have hk0 := H.out.third.blk
        have d0 := (cell_of_heap hk0 0).trans (show _ = some (.int .i64 u) from rfl)
        have d1 := (cell_of_heap hk0 1).trans (show _ = some (.int .i64 v) from rfl)
        have d2 := (cell_of_heap hk0 2).trans (show _ = some (.int .i64 x) from rfl)
        have d3 := (cell_of_heap hk0 3).trans (show _ = some (.int .i64 y) from rfl)
        have lt0 := (Array.getElem?_eq_some_iff.1 hk0).1
        clear hk0
        go_wp2_with fail
        refine (read_e _ _ _ _ H.out).mono ?_
        rintro e wa3 ⟨r30, r31, rfl, Hq, h1⟩
        replace H := hid h1.swap
        clear h1 lt0 d0 d1 d2 d3
        have hk0 := H.out.third.blk
        have d0 := (cell_of_heap hk0 0).trans (show _ = some (.int .i64 u) from rfl)
        have d1 := (cell_of_heap hk0 1).trans (show _ = some (.int .i64 v) from rfl)
        have d2 := (cell_of_heap hk0 2).trans (show _ = some (.int .i64 x) from rfl)
        have d3 := (cell_of_heap hk0 3).trans (show _ = some (.int .i64 y) from rfl)
        have lt0 := (Array.getElem?_eq_some_iff.1 hk0).1
        clear hk0
        go_wp2_with fail
        refine (rread_q _ _ _ _ Hq H.out).mono ?_
        rintro e wb3 ⟨rfl, h1⟩
        replace H := hid h1.swap
        clear h1 Hq lt0 d0 d1 d2 d3
        go_wp2_with fail
        go_roundw
        case rel => exact ⟨j + 1, by omega, by go_num, L1, hid (H.out.under fun _ => Lies.cons_mono fun _ _ => trivial)⟩
        case measure => simp [intOf]; omega
      · have hex : decide (j < len2) = false ∨ (decide (j < len2) = true ∧ decide ((j : Int) < 20) = false) := by
          by_cases h : j < len2
          · right; exact ⟨by simpa using h, by simp; omega⟩
          · left; simpa using h
        clear hlt
        rcases hex with hd1 | ⟨hd1, hd2⟩
        all_goals
          go_wp2_with fail
          refine (same2_calls H.out).mono ?_
          rintro e w2 ⟨rfl, hb2⟩
          have H2 := hid (H.out.still hb2)
          clear hb2
          go_wp2_with fail
          refine (fixed5_calls H2.out).mono ?_
          rintro e w' ⟨rfl, h5⟩
          have H5 := hid h5
          clear h5
          go_wp2_with fail
          go_ret
          exact ⟨rfl, H5.out.below⟩
  have Hsz := hid hm11
  clear hsz hm11
  go_enter Try.func15, Try.ntmps15
  go_wp2_with fail
  refine (stores_calls (Hd.refl W) ad len cap ts Hlen.out Hmax.out Hts.out 30 (by decide)).mono ?_
  rintro e w1 ⟨b, b', L0, rfl, hg, hl, hd⟩
  have H0 := hid hd
  clear hd hg hl
  go_wp2_with fail
  go_loopw [9] (fun i wr => ∃ j : Nat, j ≤ len2 ∧ i = .int .i64 j ∧ ∃ L : List T, Hid (Hd W wr [Sto b L 1000, RSto b' L 1000])) (fun i _ => len2 - (intOf i).toNat)
  case atStart => exact ⟨0, Nat.zero_le _, rfl, L0, H0⟩
  case round =>
    obtain ⟨j, hj, rfl, L, H⟩ := hrel
    clear H0
    by_cases hlt : j < len2 ∧ j < 20
    · have hd1 : decide (j < len2) = true := by simpa using hlt.1
      have hd2 : decide ((j : Int) < 20) = true := by simp; omega
      obtain ⟨z, hz⟩ : ∃ z, zs[j]? = some z := ⟨zs[j]'(by rw [← Hlen2.out]; exact hlt.1), List.getElem?_eq_getElem _⟩
      obtain ⟨hzl, hzr, g, o, rfl, hc⟩ := Hzs.out j z hz
      obtain ⟨u, v, x, y, rfl⟩ : ∃ u v x y, z = [u, v, x, y] := by
        match z, hzl with
        | [u, v, x, y], _ => exact ⟨u, v, x, y, rfl⟩
      have k0 := hc 0 u rfl
      have k1 := hc 1 v rfl
      have k2 := hc 2 x rfl
      have k3 := hc 3 y rfl
      simp only [Nat.add_zero] at k0
      have kb := World.block_lt_of_cell? W _ k0
      have c0 := (H.out.below.cell (p := ⟨g, o + j * 4, none⟩) kb).trans k0
      have c1 := (H.out.below.cell (p := ⟨g, o + j * 4 + 1, none⟩) kb).trans k1
      have c2 := (H.out.below.cell (p := ⟨g, o + j * 4 + 2, none⟩) kb).trans k2
      have c3 := (H.out.below.cell (p := ⟨g, o + j * 4 + 3, none⟩) kb).trans k3
      have hj0 : (0 : Int) ≤ (j : Int) := by omega
      have hj1 : (j : Int) < (len2 : Int) := by omega
      have hj2 : j < len2 := hlt.1
      clear hc hz hzl hzr hlt kb k0 k1 k2 k3
      go_wp2_with fail
      refine (text_e _ _ _ (s.extract 0 1100) Hsz.out (H.out.box _).unthird).mono ?_
      rintro e wa2 ⟨r20, r21, L1, rfl, Hq, h1⟩
      replace H := hid h1.swap
      clear h1 c0 c1 c2 c3
      have hk0 := H.out.third.blk
      have d0 := (cell_of_heap hk0 0).trans (show _ = some (.int .i64 u) from rfl)
      have d1 := (cell_of_heap hk0 1).trans (show _ = some (.int .i64 v) from rfl)
      have d2 := (cell_of_heap hk0 2).trans (show _ = some (.int .i64 x) from rfl)
      have d3 := (cell_of_heap hk0 3).trans (show _ = some (.int .i64 y) from rfl)
      have lt0 := (Array.getElem?_eq_some_iff.1 hk0).1
      clear hk0
      go_wp2_with fail
      refine (rtext_q _ _ _ (s.extract 0 1100) Hsz.out Hq H.out).mono ?_
      rintro e wb2 ⟨rfl, h1⟩
      replace H := hid h1.swap
      clear h1 Hq lt0 d0 d1 d2 d3
      have hk0 := H.out.third.blk
      have d0 := (cell_of_heap hk0 0).trans (show _ = some (.int .i64 u) from rfl)
      have d1 := (cell_of_heap hk0 1).trans (show _ = some (.int .i64 v) from rfl)
      have d2 := (cell_of_heap hk0 2).trans (show _ = some (.int .i64 x) from rfl)
      have d3 := (cell_of_heap hk0 3).trans (show _ = some (.int .i64 y) from rfl)
      have lt0 := (Array.getElem?_eq_some_iff.1 hk0).1
      clear hk0
      go_wp2_with fail
      refine (read_e _ _ _ _ H.out).mono ?_
      rintro e wa3 ⟨r30, r31, rfl, Hq, h1⟩
      replace H := hid h1.swap
      clear h1 lt0 d0 d1 d2 d3
      have hk0 := H.out.third.blk
      have d0 := (cell_of_heap hk0 0).trans (show _ = some (.int .i64 u) from rfl)
      have d1 := (cell_of_heap hk0 1).trans (show _ = some (.int .i64 v) from rfl)
      have d2 := (cell_of_heap hk0 2).trans (show _ = some (.int .i64 x) from rfl)
      have d3 := (cell_of_heap hk0 3).trans (show _ = some (.int .i64 y) from rfl)
      have lt0 := (Array.getElem?_eq_some_iff.1 hk0).1
      clear hk0
      go_wp2_with fail
      refine (rread_q _ _ _ _ Hq H.out).mono ?_
      rintro e wb3 ⟨rfl, h1⟩
      replace H := hid h1.swap
      clear h1 Hq lt0 d0 d1 d2 d3
      go_wp2_with fail
      go_roundw
      case rel => exact ⟨j + 1, by omega, by go_num, L1, hid (H.out.under fun _ => Lies.cons_mono fun _ _ => trivial)⟩
      case measure => simp [intOf]; omega
    · have hex : decide (j < len2) = false ∨ (decide (j < len2) = true ∧ decide ((j : Int) < 20) = false) := by
        by_cases h : j < len2
        · right; exact ⟨by simpa using h, by simp; omega⟩
        · left; simpa using h
      clear hlt
      rcases hex with hd1 | ⟨hd1, hd2⟩
      all_goals
        go_wp2_with fail
        refine (same2_calls H.out).mono ?_
        rintro e w2 ⟨rfl, hb2⟩
        have H2 := hid (H.out.still hb2)
        clear hb2
        go_wp2_with fail
        refine (fixed5_calls H2.out).mono ?_
        rintro e w' ⟨rfl, h5⟩
        have H5 := hid h5
        clear h5
        go_wp2_with fail
        go_ret
        exact ⟨rfl, H5.out.below⟩
end Go.Proofs.Ythbailkfhmkfoaa
