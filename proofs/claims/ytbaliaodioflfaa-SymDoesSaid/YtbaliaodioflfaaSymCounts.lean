/-
  SymCounts returns true, and writes nothing that was there. For every input.
-/
import Derived.Test.YtbaliaodioflfaaSymRoom
import Derived.Test.YtbaliaodioflfaaFixG
import Derived.Test.YtbaliaodioflfaaArgsC
namespace Go.Proofs.Ytbaliaodioflfaa
open Go.RowKit

theorem Hd.un3 {W w : World} {A B C : Res} {Rs : List Res} (h : Hd W w (A :: B :: C :: Rs)) : Hd W w (A :: B :: Rs) := h.third.drop
theorem Room.le {W w : World} {b : Nat} {L : List T} {m : Int} {N M : Nat} {Rs : List Res} (h : Room W w b L m N Rs) (k : N ≤ M) : Room W w b L m M Rs := ⟨h.hd, h.good, Nat.le_trans h.len k⟩

theorem sseal_none {W w : World} {b : Nat} {L : List T} {m : Int} {N : Nat} {Rs : List Res} {ck h n x : Int} (h0 : 0 ≤ n) (h1 : n < 18446744073709551615) (hr : Room W w b L m N Rs) :
    Calls Try.prog 31 #[.agg #[.int .i64 ck, .int .i64 0, .int .i64 h, .int .u64 n], .pointer (some ⟨b, 0, none⟩), .int .i64 x] w (Told7 W b L m N Rs 0 0 0 0 0 7) := by
  have := sseal_calls ck 0 h n x h0 (by omega) hr.hd
  have e : sSeal m L ⟨ck, 0, h, n⟩ x = (⟨0, 0, 0, 0⟩, 0, 7, L) := by simp [sSeal, Sy.ready, Sy.zero]
  rw [e] at this
  exact this.mono fun e w' ⟨e1, e2⟩ => ⟨e1, e2, hr.good, hr.len⟩

/-- A state that came of calls. -/
structure Came (L : List T) (ck k h n : Int) (j : Nat) : Prop where
  ick : In L ck
  ih : In L h
  n0 : 0 ≤ n
  n1 : n ≤ j
  k : k = 0 ∨ ∃ g, At L k (keyT g 2) ∧ At L ck (keyT g 1)

abbrev SBox (y : Nat) (ck k h n : Int) : Res := Blk y (.cells #[.int .i64 ck, .int .i64 k, .int .i64 h, .int .u64 n] 25 (0, 0))

set_option maxRecDepth 100000 in
set_option maxHeartbeats 16000000 in
theorem symCounts_walk (ad : Option Addr) (len cap : Nat) (ts : List T) (ad2 : Option Addr) (len2 cap2 : Nat) (zs : List (List Int)) (W : World) (hlen : len = ts.length) (hmax : len ≤ maxLen) (hts : TermsIn W ad ts)
    (hlen2 : len2 = zs.length) (_hmax2 : len2 ≤ maxLen) (hzs : RowsIn 2 .u8 W ad2 zs) :
    Calls Try.prog 6 #[.slice ad len cap, .slice ad2 len2 cap2] W fun e w' => e = .returned (.bool true) ∧ Below W.heap.size W w' := by
  have Hlen := hid hlen
  have Hts := hid hts
  have Hmax := hid hmax
  have Hlen2 := hid hlen2
  have Hzs := hid hzs
  clear hts hlen hmax hlen2 hzs
  go_enter Try.func6, Try.ntmps6
  go_wp2_with fail
  refine (stores_calls (Hd.refl W) ad len cap ts Hlen.out Hmax.out Hts.out 20 (by decide)).mono ?_
  rintro e w1 ⟨b, b', L, rfl, hg, hl, hd⟩
  have H := hid (Room.of (N := 20) hd.un2 (by omega))
  clear hd hg
  go_wp2_with fail
  refine (len_at H.out.hd).mono ?_
  rintro e w' ⟨rfl, rfl⟩
  by_cases hL : L.length = 0
  · have e0 : ((L.length : Int) == 0) = true := by simp [hL]
    have e1 : (L.length == 0) = true := by simp [hL]
    clear hL
    go_wp2_with fail
    refine (fixed7_calls H.out.hd).mono ?_
    rintro e w' ⟨rfl, h5⟩
    have H5 := hid h5
    clear h5
    go_wp2_with fail
    go_ret
    exact ⟨rfl, H5.out.below⟩
  have e0 : ((L.length : Int) == 0) = false := by simpa using hL
  have e1 : (L.length == 0) = false := by simpa using hL
  go_wp2_with fail
  refine (len_at H.out.hd).mono ?_
  rintro e w' ⟨rfl, rfl⟩
  obtain ⟨M, hM⟩ : ∃ M : Int, (L.length : Int) = M := ⟨_, rfl⟩
  have hM1 : 1 ≤ M := by omega
  have hM2 : M ≤ 20 := by omega
  have hM0 : (M == 0) = false := by rw [beq_eq_false_iff_ne]; omega
  have HM := hid (Int.le_of_eq hM.symm)
  rw [hM]
  clear hL e0 e1 hM hl
  go_wp2_with fail
  refine (sbegin_room (s := ⟨#[110, 97, 109, 101]⟩) H.out (by decide) (by decide)).mono ?_
  rintro e w2 ⟨a, L2, rfl, hat, hext, hroom⟩
  have A := hid hat
  have a0 : decide (a < 1) = false := by simp; exact hat.lo
  have HM2 : Hid (M ≤ (L2.length : Int)) := hid (by have := HM.out; have := hext.len; omega)
  clear H HM
  have H := hid hroom
  clear hat hext hroom
  go_wp2_with fail
  go_loopw [10] (fun i wr => ∃ j : Nat, j ≤ len2 ∧ j ≤ 20 ∧ i = .int .i64 j ∧ ∃ (L : List T) (ck k h n : Int), Hid (M ≤ (L.length : Int)) ∧ Hid (Came L ck k h n j) ∧ Hid (Room W wr b L 1000 (21 + 3 * j) [SBox w2.heap.size ck k h n])) (fun i _ => len2 - (intOf i).toNat)
  case atStart => exact ⟨0, Nat.zero_le _, Nat.zero_le _, rfl, L2, a, 0, a, 0, HM2, hid ⟨A.out.inn, A.out.inn, by decide, by decide, .inl rfl⟩, hid ⟨H.out.hd.bx, H.out.good, H.out.len⟩⟩
  case round =>
    clear H A HM2
    obtain ⟨j, hj, hj20, rfl, L, ck, k, h, n, HM, HC, H⟩ := hrel
    by_cases hlt : j < len2 ∧ j < 20
    · have hd1 : decide (j < len2) = true := by simpa using hlt.1
      have hd2 : decide ((j : Int) < 20) = true := by simp; omega
      obtain ⟨z, hz⟩ : ∃ z, zs[j]? = some z := ⟨zs[j]'(by rw [← Hlen2.out]; exact hlt.1), List.getElem?_eq_getElem _⟩
      obtain ⟨hzl, hzb, g, o, rfl, hc⟩ := Hzs.out j z hz
      obtain ⟨u, v, rfl⟩ : ∃ u v, z = [u, v] := by
        match z, hzl with
        | [u, v], _ => exact ⟨u, v, rfl⟩
      have k0 := hc 0 u rfl
      have k1 := hc 1 v rfl
      simp only [Nat.add_zero] at k0
      have kb := World.block_lt_of_cell? W _ k0
      have c0 : wr.cell? ⟨g, o + j * 2, none⟩ = some (.int .u8 u) := (H.out.hd.below.cell (p := ⟨g, o + j * 2, none⟩) kb).trans k0
      have c1 : wr.cell? ⟨g, o + j * 2 + 1, none⟩ = some (.int .u8 v) := (H.out.hd.below.cell (p := ⟨g, o + j * 2 + 1, none⟩) kb).trans k1
      have bu : 0 ≤ u ∧ u ≤ 255 := hzb u (by simp)
      have bv : 0 ≤ v ∧ v ≤ 255 := hzb v (by simp)
      have u0 : 0 ≤ u % 3 := by omega
      have u1 : u % 3 ≤ 2 := by omega
      have mv := mod_range v hM1
      have Ix : Hid (In L (1 + v % M)) := hid ⟨by omega, by have := HM.out; omega⟩
      have hj0 : (0 : Int) ≤ (j : Int) := by omega
      have hj1 : (j : Int) < (len2 : Int) := by omega
      have hn0 := HC.out.n0
      have hn1 : n ≤ 20 := by have := HC.out.n1; omega
      clear hc hz hzl hzb k0 k1 kb
      rcases (show u % 3 = 0 ∨ u % 3 = 1 ∨ u % 3 = 2 by omega) with hu | hu | hu
      · skip
        have t0 : (u % 3 == 0) = true := by simp; omega
        have hk := Hd.nth 1 H.out.hd rfl
        have y0 := (cell_of_heap hk 0).trans (show _ = some (.int .i64 ck) from rfl)
        have y1 := (cell_of_heap hk 1).trans (show _ = some (.int .i64 k) from rfl)
        have y2 := (cell_of_heap hk 2).trans (show _ = some (.int .i64 h) from rfl)
        have y3 := (cell_of_heap hk 3).trans (show _ = some (.int .u64 n) from rfl)
        have yf := frozen_of_heap hk
        have yl := (Array.getElem?_eq_some_iff.1 hk).1
        clear hk
        clear hu
        go_wp2_with fail
        refine (shash_room (ck := ck) (k := k) (n := n) H.out (by omega) HC.out.ih Ix.out).mono ?_
        rintro e w4 ⟨p, Lx, rfl, hat, hext, hroom⟩
        have f1 : (p == h) = false := by rw [beq_eq_false_iff_ne]; have := hat.part hroom.good (p := h) (by simp [hasT, T.parts, many]); omega
        have AP := hid hat
        have HCx : Hid (Came Lx ck k p n (j + 1)) := hid ⟨HC.out.ick.ext hext, hat.inn, hn0, by have := HC.out.n1; omega, HC.out.k.imp id fun ⟨g, h1, h2⟩ => ⟨g, h1.ext hext, h2.ext hext⟩⟩
        replace HM : Hid (M ≤ (Lx.length : Int)) := hid (by have := HM.out; have := hext.len; omega)
        clear H y0 y1 y2 y3 yf yl
        have H := hid hroom
        clear hat hext hroom
        have hk := Hd.nth 1 H.out.hd rfl
        have y0 := (cell_of_heap hk 0).trans (show _ = some (.int .i64 ck) from rfl)
        have y1 := (cell_of_heap hk 1).trans (show _ = some (.int .i64 k) from rfl)
        have y2 := (cell_of_heap hk 2).trans (show _ = some (.int .i64 h) from rfl)
        have y3 := (cell_of_heap hk 3).trans (show _ = some (.int .u64 n) from rfl)
        have yf := frozen_of_heap hk
        have yl := (Array.getElem?_eq_some_iff.1 hk).1
        clear hk
        go_wp2_with fail
        go_roundw
        case rel => exact ⟨j + 1, by omega, by omega, by go_num, Lx, ck, k, p, n, HM, hid HCx.out, hid ((H.out.re (((((H.out.hd.swap.set 0 _).set 1 _).set 2 _).set 3 _).swap.al)).le (by omega))⟩
        case measure => simp [intOf]; omega
      · skip
        have t0 : (u % 3 == 0) = false := by simp; omega
        have t1 : (u % 3 == 1) = true := by simp; omega
        have hk := Hd.nth 1 H.out.hd rfl
        have y0 := (cell_of_heap hk 0).trans (show _ = some (.int .i64 ck) from rfl)
        have y1 := (cell_of_heap hk 1).trans (show _ = some (.int .i64 k) from rfl)
        have y2 := (cell_of_heap hk 2).trans (show _ = some (.int .i64 h) from rfl)
        have y3 := (cell_of_heap hk 3).trans (show _ = some (.int .u64 n) from rfl)
        have yf := frozen_of_heap hk
        have yl := (Array.getElem?_eq_some_iff.1 hk).1
        clear hk
        clear hu
        go_wp2_with fail
        refine (smix_room (k := k) (h := h) (n := n) H.out (by omega) HC.out.ick Ix.out).mono ?_
        rintro e w4 ⟨p, q, g1, Lx, rfl, ha, hb, hg, hext, hroom⟩
        have p1 := hg.part hroom.good (p := ck) (by simp [hasT, T.parts, many])
        have p2 := ha.part hroom.good (p := g1) (by simp [keyT, T.parts, many])
        have p3 := hb.part hroom.good (p := g1) (by simp [keyT, T.parts, many])
        have f1 : (p == ck) = false := by rw [beq_eq_false_iff_ne]; omega
        have f2 : (q == k) = false := by
          rw [beq_eq_false_iff_ne]
          intro e
          have c1 := HC.out.ick.lo
          rcases HC.out.k with h0 | ⟨g2, h1, h2⟩
          · omega
          · subst e
            have h3 := hb.same (h1.ext hext)
            rw [key_inj] at h3
            have h4 := (h2.ext hext).part hroom.good (p := g2) (by simp [keyT, T.parts, many])
            omega
        have f3 : (q == p) = false := by
          rw [beq_eq_false_iff_ne]
          intro e
          subst e
          have h3 := hb.same ha
          rw [key_inj] at h3
          exact absurd h3.1 (by decide)
        have HCx : Hid (Came Lx p q h 0 (j + 1)) := hid ⟨ha.inn, HC.out.ih.ext hext, by omega, by omega, .inr ⟨g1, hb, ha⟩⟩
        replace HM : Hid (M ≤ (Lx.length : Int)) := hid (by have := HM.out; have := hext.len; omega)
        clear H p1 p2 p3 y0 y1 y2 y3 yf yl
        have H := hid hroom
        clear ha hb hg hext hroom
        have hk := Hd.nth 1 H.out.hd rfl
        have y0 := (cell_of_heap hk 0).trans (show _ = some (.int .i64 ck) from rfl)
        have y1 := (cell_of_heap hk 1).trans (show _ = some (.int .i64 k) from rfl)
        have y2 := (cell_of_heap hk 2).trans (show _ = some (.int .i64 h) from rfl)
        have y3 := (cell_of_heap hk 3).trans (show _ = some (.int .u64 n) from rfl)
        have yf := frozen_of_heap hk
        have yl := (Array.getElem?_eq_some_iff.1 hk).1
        clear hk
        go_wp2_with fail
        go_roundw
        case rel => exact ⟨j + 1, by omega, by omega, by go_num, Lx, p, q, h, 0, HM, hid HCx.out, hid ((H.out.re (((((H.out.hd.swap.set 0 _).set 1 _).set 2 _).set 3 _).swap.al)).le (by omega))⟩
        case measure => simp [intOf]; omega
      · skip
        have t0 : (u % 3 == 0) = false := by simp; omega
        have t1 : (u % 3 == 1) = false := by simp; omega
        by_cases hk0 : k = 0
        · skip
          subst hk0
          have hk := Hd.nth 1 H.out.hd rfl
          have y0 := (cell_of_heap hk 0).trans (show _ = some (.int .i64 ck) from rfl)
          have y1 := (cell_of_heap hk 1).trans (show _ = some (.int .i64 0) from rfl)
          have y2 := (cell_of_heap hk 2).trans (show _ = some (.int .i64 h) from rfl)
          have y3 := (cell_of_heap hk 3).trans (show _ = some (.int .u64 n) from rfl)
          have yf := frozen_of_heap hk
          have yl := (Array.getElem?_eq_some_iff.1 hk).1
          clear hk
          clear hu
          go_wp2_with fail
          refine (sseal_none (ck := ck) (h := h) (n := n) hn0 (by omega) H.out).mono ?_
          rintro e w4 ⟨rfl, hroom⟩
          have HCx : Hid (Came L ck 0 h n (j + 1)) := hid ⟨HC.out.ick, HC.out.ih, hn0, by have := HC.out.n1; omega, .inl rfl⟩
          clear H y0 y1 y2 y3 yf yl
          have H := hid hroom
          clear hroom
          have hk := Hd.nth 1 H.out.hd rfl
          have y0 := (cell_of_heap hk 0).trans (show _ = some (.int .i64 ck) from rfl)
          have y1 := (cell_of_heap hk 1).trans (show _ = some (.int .i64 0) from rfl)
          have y2 := (cell_of_heap hk 2).trans (show _ = some (.int .i64 h) from rfl)
          have y3 := (cell_of_heap hk 3).trans (show _ = some (.int .u64 n) from rfl)
          have yf := frozen_of_heap hk
          have yl := (Array.getElem?_eq_some_iff.1 hk).1
          clear hk
          have hne := neq_Sy ⟨0, 0, 0, 0⟩ ⟨0, 0, 0, 0⟩
          rw [show decide ((⟨0, 0, 0, 0⟩ : Sy) = ⟨0, 0, 0, 0⟩) = true from rfl] at hne
          dsimp only at hne
          go_wp2_with fail
          go_roundw
          case rel => exact ⟨j + 1, by omega, by omega, by go_num, L, ck, 0, h, n, HM, hid HCx.out, hid ((H.out.re (H.out.hd.al)).le (by omega))⟩
          case measure => simp [intOf]; omega
        · skip
          have k0 : (k == 0) = false := by simpa using hk0
          have Ik : Hid (In L k) := hid (HC.out.k.elim (fun h0 => absurd h0 hk0) fun ⟨_, h1, _⟩ => h1.inn)
          have hk := Hd.nth 1 H.out.hd rfl
          have y0 := (cell_of_heap hk 0).trans (show _ = some (.int .i64 ck) from rfl)
          have y1 := (cell_of_heap hk 1).trans (show _ = some (.int .i64 k) from rfl)
          have y2 := (cell_of_heap hk 2).trans (show _ = some (.int .i64 h) from rfl)
          have y3 := (cell_of_heap hk 3).trans (show _ = some (.int .u64 n) from rfl)
          have yf := frozen_of_heap hk
          have yl := (Array.getElem?_eq_some_iff.1 hk).1
          clear hk
          clear hu
          go_wp2_with fail
          refine (sseal_room (ck := ck) (n := n) (n + 1) rfl hn0 (by omega) H.out (by omega) Ik.out HC.out.ih Ix.out).mono ?_
          rintro e w4 ⟨c, p, Lx, rfl, hs, hat, hext, hroom⟩
          have f1 : (p == h) = false := by rw [beq_eq_false_iff_ne]; have := hat.part hroom.good (p := h) (by simp [hasT, T.parts, many]); omega
          have f2 : decide (c < 1) = false := by simp; exact hs.lo
          have HCx : Hid (Came Lx ck k p (n + 1) (j + 1)) := hid ⟨HC.out.ick.ext hext, hat.inn, by omega, by have := HC.out.n1; omega, HC.out.k.imp id fun ⟨g, h1, h2⟩ => ⟨g, h1.ext hext, h2.ext hext⟩⟩
          replace HM : Hid (M ≤ (Lx.length : Int)) := hid (by have := HM.out; have := hext.len; omega)
          clear H y0 y1 y2 y3 yf yl
          have H := hid hroom
          clear hs hat hext hroom
          have hk := Hd.nth 1 H.out.hd rfl
          have y0 := (cell_of_heap hk 0).trans (show _ = some (.int .i64 ck) from rfl)
          have y1 := (cell_of_heap hk 1).trans (show _ = some (.int .i64 k) from rfl)
          have y2 := (cell_of_heap hk 2).trans (show _ = some (.int .i64 h) from rfl)
          have y3 := (cell_of_heap hk 3).trans (show _ = some (.int .u64 n) from rfl)
          have yf := frozen_of_heap hk
          have yl := (Array.getElem?_eq_some_iff.1 hk).1
          clear hk
          go_wp2_with fail
          go_roundw
          case rel => exact ⟨j + 1, by omega, by omega, by go_num, Lx, ck, k, p, n + 1, HM, hid HCx.out, hid ((H.out.re (((((H.out.hd.swap.set 0 _).set 1 _).set 2 _).set 3 _).swap.al)).le (by omega))⟩
          case measure => simp [intOf]; omega
    · have hex : decide (j < len2) = false ∨ (decide (j < len2) = true ∧ decide ((j : Int) < 20) = false) := by
        by_cases h : j < len2
        · right; exact ⟨by simpa using h, by simp; omega⟩
        · left; simpa using h
      clear hlt
      rcases hex with hd1 | ⟨hd1, hd2⟩
      all_goals
        go_wp2_with fail
        refine (fixed7_calls H.out.hd).mono ?_
        rintro e w' ⟨rfl, h5⟩
        have H5 := hid h5
        clear h5
        go_wp2_with fail
        go_ret
        exact ⟨rfl, H5.out.below⟩
end Go.Proofs.Ytbaliaodioflfaa
