/-
  SymBoth returns true, and writes nothing that was there. For every input.
-/
import Derived.Test.YtbaliaodioflfaaSymCounts
namespace Go.Proofs.Ytbaliaodioflfaa
open Go.RowKit

theorem sbegin_known {W w : World} {b : Nat} {L : List T} {m : Int} {N : Nat} {Rs : List Res} {s : ByteArray} {p : Int} (h : Room W w b L m N Rs) (hp : At L p (txtT s)) :
    Calls Try.prog 24 #[.pointer (some ⟨b, 0, none⟩), .string s] w fun e w' => e = .returned (.tuple #[.agg #[.int .i64 p, .int .i64 0, .int .i64 p, .int .u64 0], .int .i64 0]) ∧ Room W w' b L m N Rs := by
  have := sbegin_calls s h.hd
  have e : sBegin m L s = (⟨p, 0, p, 0⟩, 0, L) := by simp [sBegin, put_known h.good hp]
  rw [e] at this
  exact this.mono fun e w' ⟨e1, e2⟩ => ⟨e1, e2, h.good, h.len⟩
theorem shash_known {W w : World} {b : Nat} {L : List T} {m : Int} {N : Nat} {Rs : List Res} {ck k h n x p : Int} (hr : Room W w b L m N Rs) (hp : At L p (hasT h x)) :
    Calls Try.prog 27 #[.agg #[.int .i64 ck, .int .i64 k, .int .i64 h, .int .u64 n], .pointer (some ⟨b, 0, none⟩), .int .i64 x] w fun e w' => e = .returned (.tuple #[.agg #[.int .i64 ck, .int .i64 k, .int .i64 p, .int .u64 n], .int .i64 0]) ∧ Room W w' b L m N Rs := by
  have := shash_calls ck k h n x hr.hd
  have e : sHash m L ⟨ck, k, h, n⟩ x = (⟨ck, k, p, n⟩, 0, L) := by simp [sHash, put_known hr.good hp]
  rw [e] at this
  exact this.mono fun e w' ⟨e1, e2⟩ => ⟨e1, e2, hr.good, hr.len⟩
theorem smix_known {W w : World} {b : Nat} {L : List T} {m : Int} {N : Nat} {Rs : List Res} {ck k h n x p q g : Int} (hr : Room W w b L m N Rs) (hp : At L p (keyT g 1)) (hq : At L q (keyT g 2)) (hg : At L g (hasT ck x)) :
    Calls Try.prog 29 #[.agg #[.int .i64 ck, .int .i64 k, .int .i64 h, .int .u64 n], .pointer (some ⟨b, 0, none⟩), .int .i64 x] w fun e w' => e = .returned (.tuple #[.agg #[.int .i64 p, .int .i64 q, .int .i64 h, .int .u64 0], .int .i64 0]) ∧ Room W w' b L m N Rs := by
  have := smix_calls ck k h n x hr.hd
  have e : sMix m L ⟨ck, k, h, n⟩ x = (⟨p, q, h, 0⟩, 0, L) := by simp [sMix, mix6, put_known hr.good hg, put_known hr.good hp, put_known hr.good hq]
  rw [e] at this
  exact this.mono fun e w' ⟨e1, e2⟩ => ⟨e1, e2, hr.good, hr.len⟩
theorem sopen_none {W w : World} {b : Nat} {L : List T} {m : Int} {N : Nat} {Rs : List Res} {ck h n x : Int} (h0 : 0 ≤ n) (h1 : n < 18446744073709551615) (hr : Room W w b L m N Rs) :
    Calls Try.prog 33 #[.agg #[.int .i64 ck, .int .i64 0, .int .i64 h, .int .u64 n], .pointer (some ⟨b, 0, none⟩), .int .i64 x] w (Told7 W b L m N Rs 0 0 0 0 0 7) := by
  have := sopen_calls ck 0 h n x h0 (by omega) hr.hd
  have e : sOpen m L ⟨ck, 0, h, n⟩ x = (⟨0, 0, 0, 0⟩, 0, 7, L) := by simp [sOpen, Sy.ready, Sy.zero]
  rw [e] at this
  exact this.mono fun e w' ⟨e1, e2⟩ => ⟨e1, e2, hr.good, hr.len⟩

set_option maxRecDepth 100000 in
set_option maxHeartbeats 16000000 in
theorem symBoth_walk (ad : Option Addr) (len cap : Nat) (ts : List T) (ad2 : Option Addr) (len2 cap2 : Nat) (zs : List (List Int)) (W : World) (hlen : len = ts.length) (hmax : len ≤ maxLen) (hts : TermsIn W ad ts)
    (hlen2 : len2 = zs.length) (_hmax2 : len2 ≤ maxLen) (hzs : RowsIn 2 .u8 W ad2 zs) :
    Calls Try.prog 4 #[.slice ad len cap, .slice ad2 len2 cap2] W fun e w' => e = .returned (.bool true) ∧ Below W.heap.size W w' := by
  have Hlen := hid hlen
  have Hts := hid hts
  have Hmax := hid hmax
  have Hlen2 := hid hlen2
  have Hzs := hid hzs
  clear hts hlen hmax hlen2 hzs
  go_enter Try.func4, Try.ntmps4
  go_wp2_with fail
  refine (stores_calls (Hd.refl W) ad len cap ts Hlen.out Hmax.out Hts.out 20 (by decide)).mono ?_
  rintro e w1 ⟨b, b', L, rfl, hg, hl, hd⟩
  have H := hid (Room.of (N := 20) hd.un2 (by omega))
  clear hd hg
  go_wp2_with fail
  refine (len_at H.out.hd).mono ?_
  rintro e w' ⟨rfl, rfl⟩
  by_cases hL : L.length = 0
  · have e0 : ((L.length : Int) == 0) = true := by simp [hL]
    have e1 : (L.length == 0) = true := by simp [hL]
    clear hL
    go_wp2_with fail
    refine (fixed7_calls H.out.hd).mono ?_
    rintro e w' ⟨rfl, h5⟩
    have H5 := hid h5
    clear h5
    go_wp2_with fail
    go_ret
    exact ⟨rfl, H5.out.below⟩
  have e0 : ((L.length : Int) == 0) = false := by simpa using hL
  have e1 : (L.length == 0) = false := by simpa using hL
  have HM := hid (show 1 ≤ L.length by omega)
  clear hL hl
  go_wp2_with fail
  clear e0 e1
  refine (sbegin_room (s := ⟨#[110, 97, 109, 101]⟩) H.out (by decide) (by decide)).mono ?_
  rintro e w2 ⟨a, L2, rfl, hat, hext, hroom⟩
  have A := hid hat
  have HM2 : Hid (1 ≤ L2.length) := hid (by have := HM.out; have := hext.len; omega)
  clear H HM
  have H := hid hroom
  clear hat hext hroom
  go_wp2_with fail
  refine (sbegin_known (s := ⟨#[110, 97, 109, 101]⟩) (H.out.re H.out.hd.bx) A.out).mono ?_
  rintro e w3 ⟨rfl, hroom⟩
  clear H
  have H := hid hroom
  clear hroom
  have hk := Hd.nth 1 H.out.hd rfl
  have hab := (Array.getElem?_eq_some_iff.1 hk).1
  have hne1 : w2.heap.size ≠ w3.heap.size := Nat.ne_of_lt hab
  have hne2 : w3.heap.size ≠ w2.heap.size := fun e => hne1 e.symm
  clear hk
  go_wp2_with fail
  go_loopw [11] (fun i wr => ∃ j : Nat, j ≤ len2 ∧ j ≤ 20 ∧ i = .int .i64 j ∧ ∃ (L : List T) (ck k h n : Int), Hid (Came L ck k h n j) ∧ Hid (Room W wr b L 1000 (21 + 3 * j) [SBox w3.heap.size ck k h n, SBox w2.heap.size ck k h n])) (fun i _ => len2 - (intOf i).toNat)
  case atStart => exact ⟨0, Nat.zero_le _, Nat.zero_le _, rfl, L2, a, 0, a, 0, hid ⟨A.out.inn, A.out.inn, by decide, by decide, .inl rfl⟩, hid ⟨H.out.hd.bx, H.out.good, H.out.len⟩⟩
  case round =>
    clear H A HM2
    obtain ⟨j, hj, hj20, rfl, L, ck, k, h, n, HC, H⟩ := hrel
    by_cases hlt : j < len2 ∧ j < 20
    · have hd1 : decide (j < len2) = true := by simpa using hlt.1
      have hd2 : decide ((j : Int) < 20) = true := by simp; omega
      obtain ⟨z, hz⟩ : ∃ z, zs[j]? = some z := ⟨zs[j]'(by rw [← Hlen2.out]; exact hlt.1), List.getElem?_eq_getElem _⟩
      obtain ⟨hzl, hzb, g, o, rfl, hc⟩ := Hzs.out j z hz
      obtain ⟨u, v, rfl⟩ : ∃ u v, z = [u, v] := by
        match z, hzl with
        | [u, v], _ => exact ⟨u, v, rfl⟩
      have k0 := hc 0 u rfl
      have k1 := hc 1 v rfl
      simp only [Nat.add_zero] at k0
      have kb := World.block_lt_of_cell? W _ k0
      have c1 : ∀ x : Later wr, x.w.cell? ⟨g, o + j * 2 + 1, none⟩ = some (.int .u8 v) := fun x => x.cell ((H.out.hd.below.cell (p := ⟨g, o + j * 2 + 1, none⟩) kb).trans k1)
      have HK : Hid (∀ w, Below W.heap.size W w → w.cell? ⟨g, o + j * 2, none⟩ = some (.int .u8 u)) := hid fun w hb => (hb.cell (p := ⟨g, o + j * 2, none⟩) kb).trans k0
      have bu : 0 ≤ u ∧ u ≤ 255 := hzb u (by simp)
      have bv : 0 ≤ v ∧ v ≤ 255 := hzb v (by simp)
      have hM1 : (1 : Int) ≤ (L.length : Int) := by have := HC.out.ick.lo; have := HC.out.ick.hi; omega
      have hM2 : (L.length : Int) ≤ 81 := by have := H.out.len; omega
      have hM0 : ((L.length : Int) == 0) = false := by rw [beq_eq_false_iff_ne]; omega
      have mv := mod_range v hM1
      obtain ⟨x, hx⟩ : ∃ x, x = 1 + v % (L.length : Int) := ⟨_, rfl⟩
      have Ix : Hid (In L x) := hid ⟨by rw [hx]; omega, by rw [hx]; omega⟩
      have Hx := hid hx
      have hj0 : (0 : Int) ≤ (j : Int) := by omega
      have hj1 : (j : Int) < (len2 : Int) := by omega
      clear hc hz hzl hzb k0 k1 kb hx
      go_wp2_with fail
      refine wp_region_calm (by kernel_rfl) (by kernel_rfl) ?_
      repeat (go_big_quiet_step ((go_at_call 39; exact Calls.calm_same (len_at (H.out.calm _)))))
      refine wpQuiet_nil ?_
      intro w4 hw4
      obtain ⟨⟨w4, hb4⟩, rfl⟩ := hw4
      replace H := hid (H.out.still hb4)
      rw [show 1 + v % (L.length : Int) = x from Hx.out.symm]
      clear c1 hb4 hM0 hM1 hM2 mv bv Hx
      have c0 := HK.out _ H.out.hd.below
      have u0 : 0 ≤ u % 3 := by omega
      have u1 : u % 3 ≤ 2 := by omega
      have hn0 := HC.out.n0
      have hn1 : n ≤ 20 := by have := HC.out.n1; omega
      rcases (show u % 3 = 0 ∨ u % 3 = 1 ∨ u % 3 = 2 by omega) with hu | hu | hu
      · skip
        have t0 : (u % 3 == 0) = true := by simp; omega
        have hk := Hd.nth 2 H.out.hd rfl
        have ya0 := (cell_of_heap hk 0).trans (show _ = some (.int .i64 ck) from rfl)
        have ya1 := (cell_of_heap hk 1).trans (show _ = some (.int .i64 k) from rfl)
        have ya2 := (cell_of_heap hk 2).trans (show _ = some (.int .i64 h) from rfl)
        have ya3 := (cell_of_heap hk 3).trans (show _ = some (.int .u64 n) from rfl)
        have yaf := frozen_of_heap hk
        have yal := (Array.getElem?_eq_some_iff.1 hk).1
        clear hk
        clear hu
        go_wp2_with fail
        refine (shash_room (ck := ck) (k := k) (n := n) H.out (by omega) HC.out.ih Ix.out).mono ?_
        rintro e w5 ⟨p, Lx, rfl, hat, hext, hroom⟩
        have AP := hid hat
        have HCx : Hid (Came Lx ck k p n (j + 1)) := hid ⟨HC.out.ick.ext hext, hat.inn, hn0, by have := HC.out.n1; omega, HC.out.k.imp id fun ⟨g, h1, h2⟩ => ⟨g, h1.ext hext, h2.ext hext⟩⟩
        clear H ya0 ya1 ya2 ya3 yaf yal
        have H := hid hroom
        clear hat hext hroom
        have hk := Hd.nth 1 H.out.hd rfl
        have yb0 := (cell_of_heap hk 0).trans (show _ = some (.int .i64 ck) from rfl)
        have yb1 := (cell_of_heap hk 1).trans (show _ = some (.int .i64 k) from rfl)
        have yb2 := (cell_of_heap hk 2).trans (show _ = some (.int .i64 h) from rfl)
        have yb3 := (cell_of_heap hk 3).trans (show _ = some (.int .u64 n) from rfl)
        have ybf := frozen_of_heap hk
        have ybl := (Array.getElem?_eq_some_iff.1 hk).1
        clear hk
        go_wp2_with fail
        refine (shash_known (ck := ck) (k := k) (n := n) (H.out.re H.out.hd.bx) AP.out).mono ?_
        rintro e w6 ⟨rfl, hroom⟩
        clear H yb0 yb1 yb2 yb3 ybf ybl
        have H := hid hroom
        clear hroom
        have hk := Hd.nth 1 H.out.hd rfl
        have nn0 := (cell_of_heap hk 0).trans (show _ = some (.int .i64 ck) from rfl)
        have nn1 := (cell_of_heap hk 1).trans (show _ = some (.int .i64 k) from rfl)
        have nn2 := (cell_of_heap hk 2).trans (show _ = some (.int .i64 p) from rfl)
        have nn3 := (cell_of_heap hk 3).trans (show _ = some (.int .u64 n) from rfl)
        have nnf := frozen_of_heap hk
        have nnl := (Array.getElem?_eq_some_iff.1 hk).1
        clear hk
        have hk := Hd.nth 2 H.out.hd rfl
        have yb0 := (cell_of_heap hk 0).trans (show _ = some (.int .i64 ck) from rfl)
        have yb1 := (cell_of_heap hk 1).trans (show _ = some (.int .i64 k) from rfl)
        have yb2 := (cell_of_heap hk 2).trans (show _ = some (.int .i64 h) from rfl)
        have yb3 := (cell_of_heap hk 3).trans (show _ = some (.int .u64 n) from rfl)
        have ybf := frozen_of_heap hk
        have ybl := (Array.getElem?_eq_some_iff.1 hk).1
        clear hk
        have hk := Hd.nth 3 H.out.hd rfl
        have ya0 := (cell_of_heap hk 0).trans (show _ = some (.int .i64 ck) from rfl)
        have ya1 := (cell_of_heap hk 1).trans (show _ = some (.int .i64 k) from rfl)
        have ya2 := (cell_of_heap hk 2).trans (show _ = some (.int .i64 h) from rfl)
        have ya3 := (cell_of_heap hk 3).trans (show _ = some (.int .u64 n) from rfl)
        have yaf := frozen_of_heap hk
        have yal := (Array.getElem?_eq_some_iff.1 hk).1
        clear hk
        have hne := neq_Sy ⟨ck, k, p, n⟩ ⟨ck, k, p, n⟩
        rw [show decide ((⟨ck, k, p, n⟩ : Sy) = ⟨ck, k, p, n⟩) = true from decide_eq_true rfl] at hne
        dsimp only at hne
        go_wp2_with fail
        go_roundw
        case rel => exact ⟨j + 1, by omega, by omega, by go_num, Lx, ck, k, p, n, HCx, hid ((H.out.re (((((((((H.out.hd.fourth.set 0 _).set 1 _).set 2 _).set 3 _).fourth.set 0 _).set 1 _).set 2 _).set 3 _).third.fourth.drop.al)).le (by omega))⟩
        case measure => simp [intOf]; omega
      · skip
        have t0 : (u % 3 == 0) = false := by simp; omega
        have t1 : (u % 3 == 1) = true := by simp; omega
        have hk := Hd.nth 2 H.out.hd rfl
        have ya0 := (cell_of_heap hk 0).trans (show _ = some (.int .i64 ck) from rfl)
        have ya1 := (cell_of_heap hk 1).trans (show _ = some (.int .i64 k) from rfl)
        have ya2 := (cell_of_heap hk 2).trans (show _ = some (.int .i64 h) from rfl)
        have ya3 := (cell_of_heap hk 3).trans (show _ = some (.int .u64 n) from rfl)
        have yaf := frozen_of_heap hk
        have yal := (Array.getElem?_eq_some_iff.1 hk).1
        clear hk
        clear hu
        go_wp2_with fail
        refine (smix_room (k := k) (h := h) (n := n) H.out (by omega) HC.out.ick Ix.out).mono ?_
        rintro e w5 ⟨p, q, g1, Lx, rfl, ha, hb, hg, hext, hroom⟩
        have P1 := hid ha
        have P2 := hid hb
        have P3 := hid hg
        have HCx : Hid (Came Lx p q h 0 (j + 1)) := hid ⟨ha.inn, HC.out.ih.ext hext, by omega, by omega, .inr ⟨g1, hb, ha⟩⟩
        clear H ya0 ya1 ya2 ya3 yaf yal
        have H := hid hroom
        clear ha hb hg hext hroom
        have hk := Hd.nth 1 H.out.hd rfl
        have yb0 := (cell_of_heap hk 0).trans (show _ = some (.int .i64 ck) from rfl)
        have yb1 := (cell_of_heap hk 1).trans (show _ = some (.int .i64 k) from rfl)
        have yb2 := (cell_of_heap hk 2).trans (show _ = some (.int .i64 h) from rfl)
        have yb3 := (cell_of_heap hk 3).trans (show _ = some (.int .u64 n) from rfl)
        have ybf := frozen_of_heap hk
        have ybl := (Array.getElem?_eq_some_iff.1 hk).1
        clear hk
        go_wp2_with fail
        refine (smix_known (k := k) (h := h) (n := n) (H.out.re H.out.hd.bx) P1.out P2.out P3.out).mono ?_
        rintro e w6 ⟨rfl, hroom⟩
        clear H yb0 yb1 yb2 yb3 ybf ybl
        have H := hid hroom
        clear hroom
        have hk := Hd.nth 1 H.out.hd rfl
        have nn0 := (cell_of_heap hk 0).trans (show _ = some (.int .i64 p) from rfl)
        have nn1 := (cell_of_heap hk 1).trans (show _ = some (.int .i64 q) from rfl)
        have nn2 := (cell_of_heap hk 2).trans (show _ = some (.int .i64 h) from rfl)
        have nn3 := (cell_of_heap hk 3).trans (show _ = some (.int .u64 0) from rfl)
        have nnf := frozen_of_heap hk
        have nnl := (Array.getElem?_eq_some_iff.1 hk).1
        clear hk
        have hk := Hd.nth 2 H.out.hd rfl
        have yb0 := (cell_of_heap hk 0).trans (show _ = some (.int .i64 ck) from rfl)
        have yb1 := (cell_of_heap hk 1).trans (show _ = some (.int .i64 k) from rfl)
        have yb2 := (cell_of_heap hk 2).trans (show _ = some (.int .i64 h) from rfl)
        have yb3 := (cell_of_heap hk 3).trans (show _ = some (.int .u64 n) from rfl)
        have ybf := frozen_of_heap hk
        have ybl := (Array.getElem?_eq_some_iff.1 hk).1
        clear hk
        have hk := Hd.nth 3 H.out.hd rfl
        have ya0 := (cell_of_heap hk 0).trans (show _ = some (.int .i64 ck) from rfl)
        have ya1 := (cell_of_heap hk 1).trans (show _ = some (.int .i64 k) from rfl)
        have ya2 := (cell_of_heap hk 2).trans (show _ = some (.int .i64 h) from rfl)
        have ya3 := (cell_of_heap hk 3).trans (show _ = some (.int .u64 n) from rfl)
        have yaf := frozen_of_heap hk
        have yal := (Array.getElem?_eq_some_iff.1 hk).1
        clear hk
        have hne := neq_Sy ⟨p, q, h, 0⟩ ⟨p, q, h, 0⟩
        rw [show decide ((⟨p, q, h, 0⟩ : Sy) = ⟨p, q, h, 0⟩) = true from decide_eq_true rfl] at hne
        dsimp only at hne
        go_wp2_with fail
        go_roundw
        case rel => exact ⟨j + 1, by omega, by omega, by go_num, Lx, p, q, h, 0, HCx, hid ((H.out.re (((((((((H.out.hd.fourth.set 0 _).set 1 _).set 2 _).set 3 _).fourth.set 0 _).set 1 _).set 2 _).set 3 _).third.fourth.drop.al)).le (by omega))⟩
        case measure => simp [intOf]; omega
      · skip
        have t0 : (u % 3 == 0) = false := by simp; omega
        have t1 : (u % 3 == 1) = false := by simp; omega
        have t2 : (u % 3 == 2) = true := by simp; omega
        by_cases hk0 : k = 0
        · skip
          subst hk0
          have hk := Hd.nth 2 H.out.hd rfl
          have ya0 := (cell_of_heap hk 0).trans (show _ = some (.int .i64 ck) from rfl)
          have ya1 := (cell_of_heap hk 1).trans (show _ = some (.int .i64 0) from rfl)
          have ya2 := (cell_of_heap hk 2).trans (show _ = some (.int .i64 h) from rfl)
          have ya3 := (cell_of_heap hk 3).trans (show _ = some (.int .u64 n) from rfl)
          have yaf := frozen_of_heap hk
          have yal := (Array.getElem?_eq_some_iff.1 hk).1
          clear hk
          clear hu
          go_wp2_with fail
          refine (sseal_none (ck := ck) (h := h) (n := n) hn0 (by omega) H.out).mono ?_
          rintro e w5 ⟨rfl, hroom⟩
          have HCx : Hid (Came L ck 0 h n (j + 1)) := hid ⟨HC.out.ick, HC.out.ih, hn0, by have := HC.out.n1; omega, .inl rfl⟩
          clear H ya0 ya1 ya2 ya3 yaf yal
          have H := hid hroom
          clear hroom
          have hk := Hd.nth 1 H.out.hd rfl
          have yb0 := (cell_of_heap hk 0).trans (show _ = some (.int .i64 ck) from rfl)
          have yb1 := (cell_of_heap hk 1).trans (show _ = some (.int .i64 0) from rfl)
          have yb2 := (cell_of_heap hk 2).trans (show _ = some (.int .i64 h) from rfl)
          have yb3 := (cell_of_heap hk 3).trans (show _ = some (.int .u64 n) from rfl)
          have ybf := frozen_of_heap hk
          have ybl := (Array.getElem?_eq_some_iff.1 hk).1
          clear hk
          go_wp2_with fail
          refine (sopen_none (ck := ck) (h := h) (n := n) hn0 (by omega) (H.out.re H.out.hd.bx)).mono ?_
          rintro e w6 ⟨rfl, hroom⟩
          clear H yb0 yb1 yb2 yb3 ybf ybl
          have H := hid hroom
          clear hroom
          have hk := Hd.nth 3 H.out.hd rfl
          have ya0 := (cell_of_heap hk 0).trans (show _ = some (.int .i64 ck) from rfl)
          have ya1 := (cell_of_heap hk 1).trans (show _ = some (.int .i64 0) from rfl)
          have ya2 := (cell_of_heap hk 2).trans (show _ = some (.int .i64 h) from rfl)
          have ya3 := (cell_of_heap hk 3).trans (show _ = some (.int .u64 n) from rfl)
          have yaf := frozen_of_heap hk
          have yal := (Array.getElem?_eq_some_iff.1 hk).1
          clear hk
          go_wp2_with fail
          go_roundw
          case rel => exact ⟨j + 1, by omega, by omega, by go_num, L, ck, 0, h, n, HCx, hid ((H.out.re (H.out.hd.un2.al)).le (by omega))⟩
          case measure => simp [intOf]; omega
        · skip
          have k0 : (k == 0) = false := by simpa using hk0
          have Ik : Hid (In L k) := hid (HC.out.k.elim (fun h0 => absurd h0 hk0) fun ⟨_, h1, _⟩ => h1.inn)
          have hk := Hd.nth 2 H.out.hd rfl
          have ya0 := (cell_of_heap hk 0).trans (show _ = some (.int .i64 ck) from rfl)
          have ya1 := (cell_of_heap hk 1).trans (show _ = some (.int .i64 k) from rfl)
          have ya2 := (cell_of_heap hk 2).trans (show _ = some (.int .i64 h) from rfl)
          have ya3 := (cell_of_heap hk 3).trans (show _ = some (.int .u64 n) from rfl)
          have yaf := frozen_of_heap hk
          have yal := (Array.getElem?_eq_some_iff.1 hk).1
          clear hk
          clear hu
          go_wp2_with fail
          refine (sseal_room (ck := ck) (n := n) (n + 1) rfl hn0 (by omega) H.out (by omega) Ik.out HC.out.ih Ix.out).mono ?_
          rintro e w5 ⟨c, p, Lx, rfl, hs, hat, hext, hroom⟩
          have P1 := hid hs
          have P2 := hid hat
          have Ik2 := hid (Ik.out.ext hext)
          have Ih2 := hid (HC.out.ih.ext hext)
          have HCx : Hid (Came Lx ck k p (n + 1) (j + 1)) := hid ⟨HC.out.ick.ext hext, hat.inn, by omega, by have := HC.out.n1; omega, HC.out.k.imp id fun ⟨g, h1, h2⟩ => ⟨g, h1.ext hext, h2.ext hext⟩⟩
          clear H ya0 ya1 ya2 ya3 yaf yal
          have H := hid hroom
          clear hs hat hext hroom
          have hk := Hd.nth 1 H.out.hd rfl
          have yb0 := (cell_of_heap hk 0).trans (show _ = some (.int .i64 ck) from rfl)
          have yb1 := (cell_of_heap hk 1).trans (show _ = some (.int .i64 k) from rfl)
          have yb2 := (cell_of_heap hk 2).trans (show _ = some (.int .i64 h) from rfl)
          have yb3 := (cell_of_heap hk 3).trans (show _ = some (.int .u64 n) from rfl)
          have ybf := frozen_of_heap hk
          have ybl := (Array.getElem?_eq_some_iff.1 hk).1
          clear hk
          go_wp2_with fail
          refine (sopen_known (ck := ck) (n := n) (n + 1) rfl hn0 (by omega) (H.out.re H.out.hd.bx) Ik2.out Ih2.out P1.out P2.out).mono ?_
          rintro e w6 ⟨rfl, hroom⟩
          clear H yb0 yb1 yb2 yb3 ybf ybl
          have H := hid hroom
          clear hroom
          have hk := Hd.nth 1 H.out.hd rfl
          have nn0 := (cell_of_heap hk 0).trans (show _ = some (.int .i64 ck) from rfl)
          have nn1 := (cell_of_heap hk 1).trans (show _ = some (.int .i64 k) from rfl)
          have nn2 := (cell_of_heap hk 2).trans (show _ = some (.int .i64 p) from rfl)
          have nn3 := (cell_of_heap hk 3).trans (show _ = some (.int .u64 (n + 1)) from rfl)
          have nnf := frozen_of_heap hk
          have nnl := (Array.getElem?_eq_some_iff.1 hk).1
          clear hk
          have hk := Hd.nth 2 H.out.hd rfl
          have yb0 := (cell_of_heap hk 0).trans (show _ = some (.int .i64 ck) from rfl)
          have yb1 := (cell_of_heap hk 1).trans (show _ = some (.int .i64 k) from rfl)
          have yb2 := (cell_of_heap hk 2).trans (show _ = some (.int .i64 h) from rfl)
          have yb3 := (cell_of_heap hk 3).trans (show _ = some (.int .u64 n) from rfl)
          have ybf := frozen_of_heap hk
          have ybl := (Array.getElem?_eq_some_iff.1 hk).1
          clear hk
          have hk := Hd.nth 3 H.out.hd rfl
          have ya0 := (cell_of_heap hk 0).trans (show _ = some (.int .i64 ck) from rfl)
          have ya1 := (cell_of_heap hk 1).trans (show _ = some (.int .i64 k) from rfl)
          have ya2 := (cell_of_heap hk 2).trans (show _ = some (.int .i64 h) from rfl)
          have ya3 := (cell_of_heap hk 3).trans (show _ = some (.int .u64 n) from rfl)
          have yaf := frozen_of_heap hk
          have yal := (Array.getElem?_eq_some_iff.1 hk).1
          clear hk
          have hne := neq_Sy ⟨ck, k, p, n + 1⟩ ⟨ck, k, p, n + 1⟩
          rw [show decide ((⟨ck, k, p, n + 1⟩ : Sy) = ⟨ck, k, p, n + 1⟩) = true from decide_eq_true rfl] at hne
          dsimp only at hne
          go_wp2_with fail
          go_roundw
          case rel => exact ⟨j + 1, by omega, by omega, by go_num, Lx, ck, k, p, n + 1, HCx, hid ((H.out.re (((((((((H.out.hd.fourth.set 0 _).set 1 _).set 2 _).set 3 _).fourth.set 0 _).set 1 _).set 2 _).set 3 _).third.fourth.drop.al)).le (by omega))⟩
          case measure => simp [intOf]; omega
    · have hex : decide (j < len2) = false ∨ (decide (j < len2) = true ∧ decide ((j : Int) < 20) = false) := by
        by_cases h : j < len2
        · right; exact ⟨by simpa using h, by simp; omega⟩
        · left; simpa using h
      clear hlt
      rcases hex with hd1 | ⟨hd1, hd2⟩
      all_goals
        have hk := Hd.nth 2 H.out.hd rfl
        have ya0 := (cell_of_heap hk 0).trans (show _ = some (.int .i64 ck) from rfl)
        have ya1 := (cell_of_heap hk 1).trans (show _ = some (.int .i64 k) from rfl)
        have ya2 := (cell_of_heap hk 2).trans (show _ = some (.int .i64 h) from rfl)
        have ya3 := (cell_of_heap hk 3).trans (show _ = some (.int .u64 n) from rfl)
        have yaf := frozen_of_heap hk
        have yal := (Array.getElem?_eq_some_iff.1 hk).1
        clear hk
        go_wp2_with fail
        refine (ssplit_room (k := k) (h := h) (n := n) H.out (by omega) HC.out.ick).mono ?_
        rintro e w5 ⟨p, q, g, t, Lx, rfl, ha, hb, hg, ht, hext, hroom⟩
        have P1 := hid ha
        have P2 := hid hb
        have P3 := hid hg
        have P4 := hid ht
        have f1 : (p != q) = true := at_ne ha hb (by rw [Ne, key_inj]; simp)
        clear H ya0 ya1 ya2 ya3 yaf yal
        have H := hid hroom
        clear ha hb hg ht hext hroom
        have hk := Hd.nth 1 H.out.hd rfl
        have yb0 := (cell_of_heap hk 0).trans (show _ = some (.int .i64 ck) from rfl)
        have yb1 := (cell_of_heap hk 1).trans (show _ = some (.int .i64 k) from rfl)
        have yb2 := (cell_of_heap hk 2).trans (show _ = some (.int .i64 h) from rfl)
        have yb3 := (cell_of_heap hk 3).trans (show _ = some (.int .u64 n) from rfl)
        have ybf := frozen_of_heap hk
        have ybl := (Array.getElem?_eq_some_iff.1 hk).1
        clear hk
        go_wp2_with fail
        refine (ssplit_known (k := k) (h := h) (n := n) H.out P1.out P2.out P3.out P4.out).mono ?_
        rintro e w6 ⟨rfl, hroom⟩
        clear H yb0 yb1 yb2 yb3 ybf ybl
        have H := hid hroom
        clear hroom
        go_wp2_with fail
        refine (fixed7_calls H.out.hd).mono ?_
        rintro e w' ⟨rfl, h5⟩
        have H5 := hid h5
        clear h5
        go_wp2_with fail
        go_ret
        exact ⟨rfl, H5.out.below⟩
end Go.Proofs.Ytbaliaodioflfaa
