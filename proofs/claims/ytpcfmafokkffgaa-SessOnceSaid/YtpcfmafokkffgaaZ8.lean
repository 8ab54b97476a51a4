/-
  Walks and laws that the proof stands on, one behind another: SessC SessB. For every input.
-/
import Derived.Test.YtpcfmafokkffgaaZ7
namespace Go.Proofs.Ytpcfmafokkffgaa
open Go.RowKit

section
variable {W w : World} {Rs : List Res} {b : Nat} {L L2 : List T} {m : Int}
theorem Hd.keep2 {A B C D : Res} (h : Hd W w (A :: B :: C :: D :: Rs)) : Hd W w (A :: B :: Rs) := ((((h.front 2 rfl).drop).front 2 rfl).drop)
theorem Hd.keep3 {A B C D E F G : Res} (h : Hd W w (A :: B :: C :: D :: E :: F :: G :: Rs)) : Hd W w (A :: B :: C :: Rs) := (((((((h.front 3 rfl).drop).front 3 rfl).drop).front 3 rfl).drop).front 3 rfl).drop
set_option maxRecDepth 100000 in
set_option maxHeartbeats 8000000 in
theorem later19_calls {y y' : Rc} {e n key er : Int} {ad : Option Addr} {cap : Nat} (hy : RcOk y) (hlt0 : y.ie < e) (be : -9223372036854775808 ≤ e) (be' : e ≤ 9223372036854775807) (h0n : 0 ≤ n) (h1n : n ≤ 255) (hq : later19 m L y e n = (y', key, er, L2)) (h : Hd W w (Sto b L m :: CaR (.slice ad y.es.length cap) y.es :: Rs)) :
    Calls Try.prog 67 #[.agg #[.int .i64 y.ik, .int .i64 y.ie, .int .u64 y.nx, .int .u64 y.bt, .slice ad y.es.length cap], .pointer (some ⟨b, 0, none⟩), .int .i64 e, .int .i64 n] w fun e' w' => ∃ ad' cap', e' = .returned (.tuple #[.agg #[.int .i64 y'.ik, .int .i64 y'.ie, .int .u64 y'.nx, .int .u64 y'.bt, .slice ad' y'.es.length cap'], .int .i64 key, .int .i64 er]) ∧ ((to15 m L y.ik y.ie e).2.2.1 = 0 → Hd W w' (Sto b L2 m :: CaR (.slice ad' y'.es.length cap') y'.es :: CaR (.slice ad y.es.length cap) y.es :: Rs)) ∧ ((to15 m L y.ik y.ie e).2.2.1 ≠ 0 → ad' = ad ∧ cap' = cap ∧ y' = y ∧ er ≠ 0 ∧ Hd W w' (Sto b L2 m :: CaR (.slice ad y.es.length cap) y.es :: Rs)) := by
  obtain ⟨ik, ie, nx, bt, es⟩ := y
  have HO := hid hy
  have hws := hid hy.ws
  have hrs := hid hy.rises
  have hl4 : es.length ≤ 4 := hy.len
  have HE := hid hy.lo
  have HE' := hid hy.hi
  dsimp only at hws hrs hq h HE HE' hlt0 ⊢
  unfold later19 at hq
  dsimp only at hq
  obtain ⟨⟨⟨tk, te⟩, ks, t3, L3⟩, ht⟩ : ∃ t, to15 m L ik ie e = t := ⟨_, rfl⟩
  rw [ht] at hq ⊢
  dsimp only at hq ⊢
  have HT := hid ht
  have H := hid (((h.boxk (o := .cells #[.int .i64 ik, .int .i64 ie, .int .u64 nx, .int .u64 bt, .slice ad es.length cap] 146 (0, 0)) w.heap.size rfl).boxk (o := .cells #[.int .i64 0, .int .i64 0, .int .u64 0, .int .u64 0, .slice none 0 0] 146 (0, 0)) (w.heap.size + 1) (by simp)).front 2 rfl)
  obtain ⟨wo, hwo⟩ : ∃ wo, (w.alloc (.cells #[.int .i64 ik, .int .i64 ie, .int .u64 nx, .int .u64 bt, .slice ad es.length cap] 146 (0, 0))).alloc (.cells #[.int .i64 0, .int .i64 0, .int .u64 0, .int .u64 0, .slice none 0 0] 146 (0, 0)) = wo := ⟨_, rfl⟩
  rw [hwo] at H
  clear h hy
  by_cases h3 : t3 = 0
  · subst h3
    rw [if_pos rfl] at hq
    obtain ⟨te1, te2, te3, hkl, te5, te6⟩ := to15_epoch (q := ((tk, te), ks, 0, L3)) ht rfl HE.out HE'.out
    dsimp only at te1 hkl
    have hkl4 : ks.length ≤ 4 := by omega
    obtain ⟨R, hR⟩ : ∃ R, puts19 es ie nx bt ks = R := ⟨_, rfl⟩
    rw [hR] at hq
    obtain ⟨hr1, hr2, hr3⟩ := puts19_ok ks (e := ie) HO.out.w HO.out.rises HO.out.len HO.out.ws
    have HQ := hid hq
    have HR := hid hR
    clear hq hR ht hr1 hr2 hr3 te1
    have hk := Hd.nthk 2 H.out rfl
    have c0 := (cell_of_heap hk 0).trans (show _ = some (.int .i64 ik) from rfl)
    have c1 := (cell_of_heap hk 1).trans (show _ = some (.int .i64 ie) from rfl)
    have c2 := (cell_of_heap hk 2).trans (show _ = some (.int .u64 nx) from rfl)
    have c3 := (cell_of_heap hk 3).trans (show _ = some (.int .u64 bt) from rfl)
    have c4 := (cell_of_heap hk 4).trans (show _ = some (.slice ad es.length cap) from rfl)
    have cs := (Array.getElem?_eq_some_iff.1 hk).1
    clear hk
    go_enter Try.func67, Try.ntmps67
    go_wp2_with fail
    refine (to_calls ik ie e be be' (by have := HE.out; omega) (by have := HE'.out; omega) H.out HT.out).mono ?_
    rintro e2 w1 ⟨v12, rfl, h1⟩
    clear H c0 c1 c2 c3 c4 cs hwo HT
    obtain ⟨a12, c12, rfl, ia⟩ := row_ints h1
    have H := hid (((((h1.front 3 rfl).front 3 rfl).front 2 rfl).front 4 rfl).front 4 rfl)
    clear h1 ia
    have hk := Hd.nthk 4 H.out rfl
    have c0 := (cell_of_heap hk 0).trans (show _ = some (.int .i64 ik) from rfl)
    have c1 := (cell_of_heap hk 1).trans (show _ = some (.int .i64 ie) from rfl)
    have c2 := (cell_of_heap hk 2).trans (show _ = some (.int .u64 nx) from rfl)
    have c3 := (cell_of_heap hk 3).trans (show _ = some (.int .u64 bt) from rfl)
    have c4 := (cell_of_heap hk 4).trans (show _ = some (.slice ad es.length cap) from rfl)
    have cs := (Array.getElem?_eq_some_iff.1 hk).1
    clear hk
    obtain ⟨N, hN⟩ : ∃ N, ks.length = N := ⟨_, rfl⟩
    rw [hN] at H hkl4 hkl ⊢
    have HN := hid hN
    have HNP : Hid (0 < N) := hid (by omega)
    clear hN hkl
    go_wp2_with fail
    have HB := hid ((H.out.bxk w1.heap.size rfl (o := .cells #[.int .i64 tk, .int .i64 te] 32 (0, 0))).bxk (w1.heap.size + 1) (by simp) (o := .cells #[.int .u64 nx, .int .u64 bt] 141 (0, 0)))
    clear H c0 c1 c2 c3 c4 cs
    go_loopw [34] (fun q wr => ∃ i : Nat, i ≤ N ∧ q = .int .i64 i ∧ ∃ (adi : Option Addr) (capi : Nat) (esi : List En) (wx wy : Int), Hid (puts19 esi (ie + i) wx wy (ks.drop i) = R) ∧ Hid (Rises esi ∧ esi.length ≤ 4) ∧ Hid ((i = 0 ∧ adi = ad ∧ capi = cap ∧ esi = es ∧ Hd W wr (Sto b L3 m :: CaR (.slice ad es.length cap) es :: RowR 3 1 (.slice a12 N c12) N (nums .i64 ks) :: Blk w1.heap.size (.cells #[.int .i64 tk, .int .i64 te] 32 (0, 0)) :: Blk (w1.heap.size + 1) (.cells #[.int .u64 wx, .int .u64 wy] 141 (0, 0)) :: Blk (w.heap.size + 1) (.cells #[.int .i64 0, .int .i64 0, .int .u64 0, .int .u64 0, .slice none 0 0] 146 (0, 0)) :: Blk w.heap.size (.cells #[.int .i64 ik, .int .i64 ie, .int .u64 nx, .int .u64 bt, .slice adi esi.length capi] 146 (0, 0)) :: Rs)) ∨ (0 < i ∧ Hd W wr (CaR (.slice adi esi.length capi) esi :: Sto b L3 m :: CaR (.slice ad es.length cap) es :: RowR 3 1 (.slice a12 N c12) N (nums .i64 ks) :: Blk w1.heap.size (.cells #[.int .i64 tk, .int .i64 te] 32 (0, 0)) :: Blk (w1.heap.size + 1) (.cells #[.int .u64 wx, .int .u64 wy] 141 (0, 0)) :: Blk (w.heap.size + 1) (.cells #[.int .i64 0, .int .i64 0, .int .u64 0, .int .u64 0, .slice none 0 0] 146 (0, 0)) :: Blk w.heap.size (.cells #[.int .i64 ik, .int .i64 ie, .int .u64 nx, .int .u64 bt, .slice adi esi.length capi] 146 (0, 0)) :: Rs)))) (fun q _ => N - (intOf q).toNat)
    case atStart => exact ⟨0, Nat.zero_le _, rfl, ad, cap, es, nx, bt, hid (by simpa using HR.out), hid ⟨hrs.out, hl4⟩, hid (.inl ⟨rfl, rfl, rfl, rfl, (((((((HB.out.front 6 rfl).front 6 rfl).front 3 rfl).front 4 rfl).front 6 rfl).front 6 rfl).front 6 rfl)⟩)⟩
    case round =>
      clear HB
      obtain ⟨i, hi, rfl, adi, capi, esi, wx, wy, HPu, HRi, HD⟩ := hrel
      obtain ⟨wl, hwl⟩ : ∃ wl : World, wl = wr := ⟨_, rfl⟩
      rw [← hwl] at HD ⊢
      clear hwl wr
      by_cases hlt : i < N
      · have hd1 : decide ((i : Int) < (N : Int)) = true := by simpa using hlt
        have HC : Hid (CaAt wl (.slice adi esi.length capi) esi) := hid (by
          rcases HD.out with ⟨_, rfl, rfl, rfl, hd⟩ | ⟨_, hd⟩
          · exact (hd.front 1 rfl).ca
          · exact hd.ca)
        have H : Hid (Hd W wl (Sto b L3 m :: CaR (.slice ad es.length cap) es :: RowR 3 1 (.slice a12 N c12) N (nums .i64 ks) :: Blk w1.heap.size (.cells #[.int .i64 tk, .int .i64 te] 32 (0, 0)) :: Blk (w1.heap.size + 1) (.cells #[.int .u64 wx, .int .u64 wy] 141 (0, 0)) :: Blk (w.heap.size + 1) (.cells #[.int .i64 0, .int .i64 0, .int .u64 0, .int .u64 0, .slice none 0 0] 146 (0, 0)) :: Blk w.heap.size (.cells #[.int .i64 ik, .int .i64 ie, .int .u64 nx, .int .u64 bt, .slice adi esi.length capi] 146 (0, 0)) :: Rs)) := hid (by
          rcases HD.out with ⟨_, _, _, _, hd⟩ | ⟨_, hd⟩
          · exact hd
          · exact hd.drop)
        clear HD
        have hi0 : (0 : Int) ≤ (i : Int) := by omega
        have hi1 : (i : Int) < (N : Int) := by omega
        have hil : i < ks.length := by rw [HN.out]; exact hlt
        obtain ⟨_, _, ea, la, _, ia⟩ := (H.out.front 2 rfl).row_is
        simp only [Value.slice.injEq, true_and] at ea
        obtain ⟨rfl, rfl⟩ := ea
        obtain ⟨g1, o1, rfl, hc1⟩ := ia.resolve_left fun e => by rw [e] at hil; simp at hil
        have d1 := hc1 i hil
        have d1s := World.block_lt_of_cell? _ _ d1
        obtain ⟨k, hk⟩ : ∃ k, ks.getD i 0 = k := ⟨_, rfl⟩
        rw [hk] at d1
        have hdr : ks.drop i = k :: ks.drop (i + 1) := by
          rw [List.drop_eq_getElem_cons hil, ← hk]
          simp [List.getD, List.getElem?_eq_getElem hil]
        have hpu := HPu.out
        rw [hdr] at hpu
        obtain ⟨⟨es2, ⟨pa, pk, px, py⟩, pb⟩, hp⟩ : ∃ t, kPut esi ⟨ie + i, k, wx, wy⟩ = t := ⟨_, rfl⟩
        unfold puts19 at hpu
        rw [hp] at hpu
        have HP := hid hp
        have HP2 : Hid (puts19 es2 (ie + ((i + 1 : Nat) : Int)) 0 0 (ks.drop (i + 1)) = R) := hid (by rw [← hpu]; congr 1; omega)
        have HR2 : Hid (Rises es2 ∧ es2.length ≤ 4) := hid (by
          have r1 := kPut_rises HRi.out.1 HRi.out.2 ⟨ie + i, k, wx, wy⟩
          have r2 := kPut_length HRi.out.1 HRi.out.2 ⟨ie + i, k, wx, wy⟩
          rw [hp] at r1 r2
          exact ⟨r1, r2⟩)
        have z1 : IntKind.i64.wrap (ie + (i : Int)) = ie + i := IntWalk.i64_in _ (by have := HE.out; have := HE'.out; omega)
        have HLT := hid hlt
        clear hc1 ia la hil hk hdr hpu hp hlt
        have hk := Hd.nthk 6 H.out rfl
        have c0 := (cell_of_heap hk 0).trans (show _ = some (.int .i64 ik) from rfl)
        have c1 := (cell_of_heap hk 1).trans (show _ = some (.int .i64 ie) from rfl)
        have c2 := (cell_of_heap hk 2).trans (show _ = some (.int .u64 nx) from rfl)
        have c3 := (cell_of_heap hk 3).trans (show _ = some (.int .u64 bt) from rfl)
        have c4 := (cell_of_heap hk 4).trans (show _ = some (.slice adi esi.length capi) from rfl)
        have cs := (Array.getElem?_eq_some_iff.1 hk).1
        have cf := frozen_of_heap hk
        clear hk
        have hk := Hd.nthk 4 H.out rfl
        have g0 := (cell_of_heap hk 0).trans (show _ = some (.int .u64 wx) from rfl)
        have g1 := (cell_of_heap hk 1).trans (show _ = some (.int .u64 wy) from rfl)
        have gs := (Array.getElem?_eq_some_iff.1 hk).1
        have gf := frozen_of_heap hk
        clear hk
        have hne := blks_ne ((((((((H.out.front 5 rfl).front 4 rfl).front 4 rfl).front 4 rfl).front 4 rfl).front 5 rfl).front 6 rfl))
        have hne2 : ¬ w1.heap.size + 1 = w.heap.size := fun e => hne e.symm
        go_wp2_with fail
        refine (put16_is (ie + i) k wx wy HP.out HRi.out.1 (by have := HRi.out.2; omega) HC.out H.out).mono ?_
        rintro e2 w2 ⟨ad2, cap2, rfl, h1⟩
        clear H HP HRi HC c0 c1 c2 c3 c4 cs cf g0 g1 gs gf d1 d1s z1
        have H := hid h1
        clear h1
        have hk := Hd.nthk 7 H.out rfl
        have c0 := (cell_of_heap hk 0).trans (show _ = some (.int .i64 ik) from rfl)
        have c1 := (cell_of_heap hk 1).trans (show _ = some (.int .i64 ie) from rfl)
        have c2 := (cell_of_heap hk 2).trans (show _ = some (.int .u64 nx) from rfl)
        have c3 := (cell_of_heap hk 3).trans (show _ = some (.int .u64 bt) from rfl)
        have c4 := (cell_of_heap hk 4).trans (show _ = some (.slice adi esi.length capi) from rfl)
        have cs := (Array.getElem?_eq_some_iff.1 hk).1
        have cf := frozen_of_heap hk
        clear hk
        have hk := Hd.nthk 5 H.out rfl
        have g0 := (cell_of_heap hk 0).trans (show _ = some (.int .u64 wx) from rfl)
        have g1 := (cell_of_heap hk 1).trans (show _ = some (.int .u64 wy) from rfl)
        have gs := (Array.getElem?_eq_some_iff.1 hk).1
        have gf := frozen_of_heap hk
        clear hk
        go_wp2_with fail
        go_roundw
        case rel =>
          refine ⟨i + 1, (by have := HLT.out; omega), by go_num, ad2, cap2, es2, 0, 0, HP2, HR2, hid (.inr ⟨by omega, ?_⟩)⟩
          have h8 := (((((((((H.out.front 6 rfl).front 5 rfl).front 5 rfl).front 5 rfl).front 5 rfl).front 5 rfl).front 6 rfl).front 7 rfl).set 4 (.slice ad2 es2.length cap2))
          have h9 := ((((((((((h8.front 7 rfl).front 7 rfl).front 7 rfl).front 7 rfl).front 7 rfl).front 7 rfl).front 6 rfl).front 7 rfl).set 0 (.int .u64 0)).set 1 (.int .u64 0))
          exact ((((((((h9.front 1 rfl).front 7 rfl).front 2 rfl).front 7 rfl).front 7 rfl).front 7 rfl).front 7 rfl).front 7 rfl)
        case measure => have := HLT.out; simp [intOf]; omega
      · obtain rfl : i = N := by omega
        have hd1 : decide ((i : Int) < (i : Int)) = false := by simp
        have hR2 : esi = R := by
          have := HPu.out
          rw [← HN.out, List.drop_length] at this
          simpa [puts19] using this
        subst hR2
        have H : Hid (Hd W wl (Sto b L3 m :: CaR (.slice adi esi.length capi) esi :: CaR (.slice ad es.length cap) es :: RowR 3 1 (.slice a12 i c12) i (nums .i64 ks) :: Blk w1.heap.size (.cells #[.int .i64 tk, .int .i64 te] 32 (0, 0)) :: Blk (w1.heap.size + 1) (.cells #[.int .u64 wx, .int .u64 wy] 141 (0, 0)) :: Blk (w.heap.size + 1) (.cells #[.int .i64 0, .int .i64 0, .int .u64 0, .int .u64 0, .slice none 0 0] 146 (0, 0)) :: Blk w.heap.size (.cells #[.int .i64 ik, .int .i64 ie, .int .u64 nx, .int .u64 bt, .slice adi esi.length capi] 146 (0, 0)) :: Rs)) := hid (by
          rcases HD.out with ⟨h0, _⟩ | ⟨_, hd⟩
          · have := HNP.out; omega
          · exact hd.front 1 rfl)
        clear HPu hlt hi HD
        have hk := Hd.nthk 7 H.out rfl
        have c0 := (cell_of_heap hk 0).trans (show _ = some (.int .i64 ik) from rfl)
        have c1 := (cell_of_heap hk 1).trans (show _ = some (.int .i64 ie) from rfl)
        have c2 := (cell_of_heap hk 2).trans (show _ = some (.int .u64 nx) from rfl)
        have c3 := (cell_of_heap hk 3).trans (show _ = some (.int .u64 bt) from rfl)
        have c4 := (cell_of_heap hk 4).trans (show _ = some (.slice adi esi.length capi) from rfl)
        have cs := (Array.getElem?_eq_some_iff.1 hk).1
        clear hk
        have hk := Hd.nthk 4 H.out rfl
        have g0 := (cell_of_heap hk 0).trans (show _ = some (.int .i64 tk) from rfl)
        have g1 := (cell_of_heap hk 1).trans (show _ = some (.int .i64 te) from rfl)
        have gs := (Array.getElem?_eq_some_iff.1 hk).1
        clear hk
        go_wp2_with fail
        refine (now19_calls wIn_zero h0n h1n HQ.out H.out).mono ?_
        rintro e2 w2 ⟨rfl, h1⟩
        clear H c0 c1 c2 c3 c4 cs g0 g1 gs
        have H := hid h1
        clear h1
        have hes : y'.es = esi := by
          have := HQ.out
          unfold now19 at this
          split at this <;> (simp only [Prod.mk.injEq] at this; obtain ⟨rfl, _⟩ := this; rfl)
        obtain ⟨ik', ie', nx', bt', es'⟩ := y'
        dsimp only at hes ⊢
        subst hes
        have hk := Hd.nthk 6 H.out rfl
        have q0 := (cell_of_heap hk 0).trans (show _ = some (.int .i64 0) from rfl)
        have q1 := (cell_of_heap hk 1).trans (show _ = some (.int .i64 0) from rfl)
        have q2 := (cell_of_heap hk 2).trans (show _ = some (.int .u64 0) from rfl)
        have q3 := (cell_of_heap hk 3).trans (show _ = some (.int .u64 0) from rfl)
        have q4 := (cell_of_heap hk 4).trans (show _ = some (.slice none 0 0) from rfl)
        have qs := (Array.getElem?_eq_some_iff.1 hk).1
        have qf := frozen_of_heap hk
        clear hk
        go_wp2_with fail
        refine bodyPost_ret (v := .tuple #[.agg #[.int .i64 ik', .int .i64 ie', .int .u64 nx', .int .u64 bt', .slice adi es'.length capi], .int .i64 key, .int .i64 er]) (by simp [results, Try.results67, go_sem, q0, q1, q2, q3, q4]) rfl ⟨adi, capi, rfl, ?_⟩
        have hd9 := ((((((((((((((H.out.front 7 rfl).front 6 rfl).front 6 rfl).front 6 rfl).front 6 rfl).front 6 rfl).front 6 rfl).front 7 rfl).set 0 (.int .i64 ik')).set 1 (.int .i64 ie')).set 2 (.int .u64 nx')).set 3 (.int .u64 bt')).set 4 (.slice adi es'.length capi))).drop.keep3
        first
          | exact ⟨fun _ => hd9, fun h => absurd rfl h⟩
          | exact ⟨hd9, fun h => absurd rfl h⟩
          | exact ⟨hd9, trivial⟩
          | exact hd9
  · rw [if_neg h3] at hq
    simp only [Prod.mk.injEq] at hq
    obtain ⟨rfl, rfl, rfl, rfl⟩ := hq
    have g1 : (t3 != 0) = true := by rw [bne_iff_ne]; exact h3
    have g2 : decide (t3 = 0) = false := by simpa using h3
    have HH3 := hid h3
    clear h3 ht
    have hk := Hd.nthk 2 H.out rfl
    have c0 := (cell_of_heap hk 0).trans (show _ = some (.int .i64 ik) from rfl)
    have c1 := (cell_of_heap hk 1).trans (show _ = some (.int .i64 ie) from rfl)
    have c2 := (cell_of_heap hk 2).trans (show _ = some (.int .u64 nx) from rfl)
    have c3 := (cell_of_heap hk 3).trans (show _ = some (.int .u64 bt) from rfl)
    have c4 := (cell_of_heap hk 4).trans (show _ = some (.slice ad es.length cap) from rfl)
    have cs := (Array.getElem?_eq_some_iff.1 hk).1
    clear hk
    go_enter Try.func67, Try.ntmps67
    go_wp2_with fail
    refine (to_calls ik ie e be be' (by have := HE.out; omega) (by have := HE'.out; omega) H.out HT.out).mono ?_
    rintro e2 w1 ⟨v12, rfl, h1⟩
    clear H c0 c1 c2 c3 c4 cs hwo HT
    obtain ⟨a12, c12, rfl, ia⟩ := row_ints h1
    have H := hid (((((h1.front 3 rfl).front 3 rfl).front 2 rfl).front 4 rfl).front 4 rfl)
    clear h1 ia
    have hk := Hd.nthk 4 H.out rfl
    have c0 := (cell_of_heap hk 0).trans (show _ = some (.int .i64 ik) from rfl)
    have c1 := (cell_of_heap hk 1).trans (show _ = some (.int .i64 ie) from rfl)
    have c2 := (cell_of_heap hk 2).trans (show _ = some (.int .u64 nx) from rfl)
    have c3 := (cell_of_heap hk 3).trans (show _ = some (.int .u64 bt) from rfl)
    have c4 := (cell_of_heap hk 4).trans (show _ = some (.slice ad es.length cap) from rfl)
    have cs := (Array.getElem?_eq_some_iff.1 hk).1
    clear hk
    have hk := Hd.nthk 3 H.out rfl
    have q0 := (cell_of_heap hk 0).trans (show _ = some (.int .i64 0) from rfl)
    have q1 := (cell_of_heap hk 1).trans (show _ = some (.int .i64 0) from rfl)
    have q2 := (cell_of_heap hk 2).trans (show _ = some (.int .u64 0) from rfl)
    have q3 := (cell_of_heap hk 3).trans (show _ = some (.int .u64 0) from rfl)
    have q4 := (cell_of_heap hk 4).trans (show _ = some (.slice none 0 0) from rfl)
    have qs := (Array.getElem?_eq_some_iff.1 hk).1
    have qf := frozen_of_heap hk
    clear hk
    go_wp2_with fail
    refine bodyPost_ret (v := .tuple #[.agg #[.int .i64 ik, .int .i64 ie, .int .u64 nx, .int .u64 bt, .slice ad es.length cap], .int .i64 0, .int .i64 t3]) (by simp [results, Try.results67, go_sem, q0, q1, q2, q3, q4, qs]) rfl ⟨_, _, rfl, fun h => absurd h HH3.out, fun _ => ⟨by first | rfl | trivial, by first | rfl | trivial, by first | rfl | trivial, HH3.out, ?_⟩⟩
    first
      | exact ((((((((((((H.out.front 4 rfl).front 3 rfl).front 3 rfl).front 3 rfl).front 4 rfl).set 0 (.int .i64 ik)).set 1 (.int .i64 ie)).set 2 (.int .u64 nx)).set 3 (.int .u64 bt)).set 4 (.slice ad es.length cap))).drop.keep2).al
      | exact (((((((((((H.out.al.front 4 rfl).front 3 rfl).front 3 rfl).front 3 rfl).front 4 rfl).set 0 (.int .i64 ik)).set 1 (.int .i64 ie)).set 2 (.int .u64 nx)).set 3 (.int .u64 bt)).set 4 (.slice ad es.length cap))).drop.keep2
end
end Go.Proofs.Ytpcfmafokkffgaa
namespace Go.Proofs.Ytpcfmafokkffgaa
open Go.RowKit

section
variable {W w : World} {Rs : List Res}
set_option maxRecDepth 100000 in
set_option maxHeartbeats 8000000 in
theorem ago19_calls {y y' : Rc} {e n key er : Int} {ad : Option Addr} {cap : Nat} (hy : RcOk y) (h0n : 0 ≤ n) (h1n : n ≤ 255) (hq : ago19 y e n = (y', key, er)) (h : Hd W w (CaR (.slice ad y.es.length cap) y.es :: Rs)) :
    Calls Try.prog 68 #[.agg #[.int .i64 y.ik, .int .i64 y.ie, .int .u64 y.nx, .int .u64 y.bt, .slice ad y.es.length cap], .int .i64 e, .int .i64 n] w fun e' w' => ∃ ad' cap', e' = .returned (.tuple #[.agg #[.int .i64 y'.ik, .int .i64 y'.ie, .int .u64 y'.nx, .int .u64 y'.bt, .slice ad' y'.es.length cap'], .int .i64 key, .int .i64 er]) ∧ (er = 0 → Hd W w' (CaR (.slice ad' y'.es.length cap') y'.es :: CaR (.slice ad y.es.length cap) y.es :: Rs)) ∧ (er ≠ 0 → ad' = ad ∧ cap' = cap ∧ y' = y ∧ Hd W w' (CaR (.slice ad y.es.length cap) y.es :: Rs)) := by
  have mixed : Try.prog.follows .mixedOrders = true := by kernel_rfl
  obtain ⟨ik, ie, nx, bt, es⟩ := y
  have HO := hid hy
  have hws := hid hy.ws
  have hrs := hid hy.rises
  have hl4 : es.length ≤ 4 := hy.len
  dsimp only at hws hrs hq h ⊢
  unfold ago19 at hq
  dsimp only at hq
  obtain ⟨⟨⟨ga, gk, gx, gy⟩, gb⟩, hg⟩ : ∃ t, kGet es e = t := ⟨_, rfl⟩
  rw [hg] at hq
  dsimp only at hq
  have HG := hid hg
  have HGI : Hid (gb = true → WIn gx gy) := hid fun hb => by
    have := kGet_mem (es := es) (n := e) (by rw [hg]; exact hb)
    rw [hg] at this
    exact hws.out _ this.1
  have z1 : IntKind.u64.wrap n = n := IntWalk.u64_in _ (by omega)
  have H := hid (((h.boxk (o := .cells #[.int .i64 ik, .int .i64 ie, .int .u64 nx, .int .u64 bt, .slice ad es.length cap] 146 (0, 0)) w.heap.size rfl).boxk (o := .cells #[.int .i64 0, .int .i64 0, .int .u64 0, .int .u64 0, .slice none 0 0] 146 (0, 0)) (w.heap.size + 1) (by simp)).front 2 rfl)
  obtain ⟨wo, hwo⟩ : ∃ wo, (w.alloc (.cells #[.int .i64 ik, .int .i64 ie, .int .u64 nx, .int .u64 bt, .slice ad es.length cap] 146 (0, 0))).alloc (.cells #[.int .i64 0, .int .i64 0, .int .u64 0, .int .u64 0, .slice none 0 0] 146 (0, 0)) = wo := ⟨_, rfl⟩
  rw [hwo] at H
  clear h hg hy
  cases gb
  · rw [if_neg (by simp)] at hq
    simp only [Prod.mk.injEq] at hq
    obtain ⟨rfl, rfl, rfl⟩ := hq
    clear HGI
    have hk := Hd.nthk 2 H.out rfl
    have c0 := (cell_of_heap hk 0).trans (show _ = some (.int .i64 ik) from rfl)
    have c1 := (cell_of_heap hk 1).trans (show _ = some (.int .i64 ie) from rfl)
    have c2 := (cell_of_heap hk 2).trans (show _ = some (.int .u64 nx) from rfl)
    have c3 := (cell_of_heap hk 3).trans (show _ = some (.int .u64 bt) from rfl)
    have c4 := (cell_of_heap hk 4).trans (show _ = some (.slice ad es.length cap) from rfl)
    have cs := (Array.getElem?_eq_some_iff.1 hk).1
    clear hk
    go_enter Try.func68, Try.ntmps68
    go_wp2_with fail
    refine (get16_is e HG.out hrs.out (by omega) H.out.ca H.out).mono ?_
    rintro e2 w1 ⟨rfl, h1⟩
    replace H := hid h1
    clear c0 c1 c2 c3 c4 cs hwo h1 HG
    have hk := Hd.nthk 2 H.out rfl
    have c0 := (cell_of_heap hk 0).trans (show _ = some (.int .i64 ik) from rfl)
    have c1 := (cell_of_heap hk 1).trans (show _ = some (.int .i64 ie) from rfl)
    have c2 := (cell_of_heap hk 2).trans (show _ = some (.int .u64 nx) from rfl)
    have c3 := (cell_of_heap hk 3).trans (show _ = some (.int .u64 bt) from rfl)
    have c4 := (cell_of_heap hk 4).trans (show _ = some (.slice ad es.length cap) from rfl)
    have cs := (Array.getElem?_eq_some_iff.1 hk).1
    clear hk
    have hk := Hd.nthk 1 H.out rfl
    have q0 := (cell_of_heap hk 0).trans (show _ = some (.int .i64 0) from rfl)
    have q1 := (cell_of_heap hk 1).trans (show _ = some (.int .i64 0) from rfl)
    have q2 := (cell_of_heap hk 2).trans (show _ = some (.int .u64 0) from rfl)
    have q3 := (cell_of_heap hk 3).trans (show _ = some (.int .u64 0) from rfl)
    have q4 := (cell_of_heap hk 4).trans (show _ = some (.slice none 0 0) from rfl)
    have qs := (Array.getElem?_eq_some_iff.1 hk).1
    have qf := frozen_of_heap hk
    clear hk
    go_wp2_with fail
    refine bodyPost_ret (v := .tuple #[.agg #[.int .i64 ik, .int .i64 ie, .int .u64 nx, .int .u64 bt, .slice ad es.length cap], .int .i64 0, .int .i64 12]) (by simp [results, Try.results68, go_sem, q0, q1, q2, q3, q4, qs]) rfl ⟨_, _, rfl, fun h => absurd h (by decide), fun _ => ⟨by first | rfl | trivial, by first | rfl | trivial, by first | rfl | trivial, ?_⟩⟩
    first
      | exact (((((((((H.out.front 2 rfl).front 1 rfl).front 2 rfl).set 0 (.int .i64 ik)).set 1 (.int .i64 ie)).set 2 (.int .u64 nx)).set 3 (.int .u64 bt)).set 4 (.slice ad es.length cap))).drop.un2.al
      | exact (((((((((H.out.al.front 2 rfl).front 1 rfl).front 2 rfl).set 0 (.int .i64 ik)).set 1 (.int .i64 ie)).set 2 (.int .u64 nx)).set 3 (.int .u64 bt)).set 4 (.slice ad es.length cap))).drop.un2
  rw [if_pos rfl] at hq
  obtain ⟨⟨⟨t1, t2⟩, t3⟩, ht⟩ : ∃ t, wTake gx gy n = t := ⟨_, rfl⟩
  rw [ht] at hq
  dsimp only at hq
  have HT := hid ht
  clear ht
  by_cases h3 : t3 = 0
  · subst h3
    rw [if_pos rfl] at hq
    obtain ⟨⟨es', ⟨pa, pk, px, py⟩, pb⟩, hp⟩ : ∃ t, kPut es ⟨ga, gk, t1, t2⟩ = t := ⟨_, rfl⟩
    rw [hp] at hq
    dsimp only at hq
    simp only [Prod.mk.injEq] at hq
    obtain ⟨rfl, rfl, rfl⟩ := hq
    have HP := hid hp
    clear hp
    have hk := Hd.nthk 2 H.out rfl
    have c0 := (cell_of_heap hk 0).trans (show _ = some (.int .i64 ik) from rfl)
    have c1 := (cell_of_heap hk 1).trans (show _ = some (.int .i64 ie) from rfl)
    have c2 := (cell_of_heap hk 2).trans (show _ = some (.int .u64 nx) from rfl)
    have c3 := (cell_of_heap hk 3).trans (show _ = some (.int .u64 bt) from rfl)
    have c4 := (cell_of_heap hk 4).trans (show _ = some (.slice ad es.length cap) from rfl)
    have cs := (Array.getElem?_eq_some_iff.1 hk).1
    clear hk
    go_enter Try.func68, Try.ntmps68
    go_wp2_with fail
    refine (get16_is e HG.out hrs.out (by omega) H.out.ca H.out).mono ?_
    rintro e2 w1 ⟨rfl, h1⟩
    replace H := hid h1
    clear c0 c1 c2 c3 c4 cs hwo h1 HG
    go_wp2_with fail
    have HB := hid (H.out.bxk w1.heap.size rfl (o := .cells #[.int .i64 ga, .int .i64 gk, .int .u64 gx, .int .u64 gy] 182 (0, 0)))
    clear H
    refine (take14_calls (HGI.out (by first | rfl | trivial)) h0n h1n HT.out _).mono ?_
    rintro e2 w2 ⟨rfl, h1⟩
    have H := hid (HB.out.still h1)
    clear h1 HB HT HGI z1
    have hk := Hd.nthk 3 H.out rfl
    have c0 := (cell_of_heap hk 0).trans (show _ = some (.int .i64 ik) from rfl)
    have c1 := (cell_of_heap hk 1).trans (show _ = some (.int .i64 ie) from rfl)
    have c2 := (cell_of_heap hk 2).trans (show _ = some (.int .u64 nx) from rfl)
    have c3 := (cell_of_heap hk 3).trans (show _ = some (.int .u64 bt) from rfl)
    have c4 := (cell_of_heap hk 4).trans (show _ = some (.slice ad es.length cap) from rfl)
    have cs := (Array.getElem?_eq_some_iff.1 hk).1
    clear hk
    have hk := Hd.nthk 1 H.out rfl
    have g0 := (cell_of_heap hk 0).trans (show _ = some (.int .i64 ga) from rfl)
    have g1 := (cell_of_heap hk 1).trans (show _ = some (.int .i64 gk) from rfl)
    have g2 := (cell_of_heap hk 2).trans (show _ = some (.int .u64 gx) from rfl)
    have g3 := (cell_of_heap hk 3).trans (show _ = some (.int .u64 gy) from rfl)
    have gs := (Array.getElem?_eq_some_iff.1 hk).1
    have gf := frozen_of_heap hk
    clear hk
    go_wp2_with fail
    have HB := hid (((((((H.out.front 3 rfl).front 3 rfl).front 2 rfl).front 3 rfl).set 2 (.int .u64 t1)).set 3 (.int .u64 t2)).al (o := .cells #[.int .u64 t1, .int .u64 t2] 141 (0, 0)))
    clear H c0 c1 c2 c3 c4 cs g0 g1 g2 g3 gs gf
    have H := hid ((((HB.out.front 3 rfl).front 3 rfl).front 2 rfl).front 3 rfl)
    clear HB
    refine (put16_is ga gk t1 t2 HP.out hrs.out (by omega) H.out.ca H.out).mono ?_
    rintro e2 w3 ⟨ad', cap', rfl, h1⟩
    clear H HP
    have H := hid h1
    clear h1
    have hk := Hd.nthk 4 H.out rfl
    have c0 := (cell_of_heap hk 0).trans (show _ = some (.int .i64 ik) from rfl)
    have c1 := (cell_of_heap hk 1).trans (show _ = some (.int .i64 ie) from rfl)
    have c2 := (cell_of_heap hk 2).trans (show _ = some (.int .u64 nx) from rfl)
    have c3 := (cell_of_heap hk 3).trans (show _ = some (.int .u64 bt) from rfl)
    have c4 := (cell_of_heap hk 4).trans (show _ = some (.slice ad es.length cap) from rfl)
    have cs := (Array.getElem?_eq_some_iff.1 hk).1
    have cf := frozen_of_heap hk
    clear hk
    go_wp2_with fail
    have HB := hid ((((((H.out.front 3 rfl).front 3 rfl).front 3 rfl).front 3 rfl).front 4 rfl).set 4 (.slice ad' es'.length cap'))
    clear H c0 c1 c2 c3 c4 cs cf
    have H := hid (((((HB.out.front 2 rfl).front 2 rfl).front 3 rfl).front 3 rfl).front 4 rfl)
    clear HB
    refine hold_coreB (P := Try.prog) (W := W) (Rs := (Blk w.heap.size (.cells #[.int .i64 ik, .int .i64 ie, .int .u64 nx, .int .u64 bt, .slice ad' es'.length cap'] 146 (0, 0)) :: Blk w1.heap.size (.cells #[.int .i64 ga, .int .i64 gk, .int .u64 t1, .int .u64 t2] 182 (0, 0)) :: CaR (.slice ad' es'.length cap') es' :: CaR (.slice ad es.length cap) es :: Rs)) [[], [], [1], [0], [2], []] [[], [], [], [], [], []] ([some 46, some 47, some 48, none, some 7, some 8] : List (Option Nat)) ([none, none, none, none, none, none, some 3] : List (Option Nat)) ((fun _ => .agg #[.int .i64 ik, .int .i64 ie, .int .u64 nx, .int .u64 bt, .slice ad' es'.length cap']) :: (fun _ => .pointer (some ⟨w1.heap.size, 1, none⟩)) :: (fun _ => .int .i64 gk) :: (fun _ => undef) :: (fun _ => .int .i64 gk) :: (fun _ => .int .i64 0) :: []) ((fun _ => []) :: (fun _ => []) :: (fun _ => []) :: (fun _ => []) :: (fun _ => []) :: (fun _ => []) :: (fun _ => [Blk (w.heap.size + 1) (.cells #[.int .i64 0, .int .i64 0, .int .u64 0, .int .u64 0, .slice none 0 0] 146 (0, 0))]) :: ([] : List (List Gh → List Res))) ((fun _ => []) :: (fun _ => []) :: (fun _ => []) :: (fun _ => []) :: (fun _ => []) :: (fun _ => []) :: (fun _ => [Blk (w.heap.size + 1) (.cells #[.int .i64 ik, .int .i64 ie, .int .u64 nx, .int .u64 bt, .slice ad' es'.length cap'] 146 (0, 0))]) :: ([] : List (List Gh → List Res))) (by kernel_rfl) rfl (hold_lt (n := 49) (by decide)) H.out rfl (by decide) (hold_nil (fs := [3]) trivial rfl ?nil9) ?gd9 ?step9 (fun t => (decide (7 ≤ t) && decide (t ≤ 8)) || (decide (46 ≤ t) && decide (t ≤ 48))) (by decide) ?done9 (fun I h0 st dn => run_wpB mixed I h0 st dn)
    case nil9 =>
      intro s gs hs
      simp only [List.mem_cons, List.not_mem_nil, or_false] at hs
      subst hs; rfl
    case gd9 =>
      repeat (refine StepAll.cons (by first | exact trivial | exact fun g => rfl) ?_)
      exact trivial
    case step9 =>
      refine StepAll.cons ?_ ?_
      · refine HoldStepB.val (by decide) fun a wx γ hn hr hres hpre Ss hH K hK => ?_
        have e3 : a.eval (.tmp 3) = .pointer (some ⟨w.heap.size, 0, none⟩) := (hr 3 (by decide)).trans rfl
        have hk := Hd.nthk 0 hH.rear rfl
        have c0 := (cell_of_heap hk 0).trans (show _ = some (.int .i64 ik) from rfl)
        have c1 := (cell_of_heap hk 1).trans (show _ = some (.int .i64 ie) from rfl)
        have c2 := (cell_of_heap hk 2).trans (show _ = some (.int .u64 nx) from rfl)
        have c3 := (cell_of_heap hk 3).trans (show _ = some (.int .u64 bt) from rfl)
        have c4 := (cell_of_heap hk 4).trans (show _ = some (.slice ad' es'.length cap') from rfl)
        clear hk
        exact hold_run (v := .agg #[.int .i64 ik, .int .i64 ie, .int .u64 nx, .int .u64 bt, .slice ad' es'.length cap']) (by clear hn hr hK; generalize a.eval = ρ at *; simp [execOp, e3, c0, c1, c2, c3, c4, go_sem]) rfl rfl hH hK
      refine StepAll.cons ?_ ?_
      · refine HoldStepB.val (by decide) fun a wx γ hn hr hres hpre Ss hH K hK => ?_
        have e9 : a.eval (.tmp 9) = .pointer (some ⟨w1.heap.size, 0, none⟩) := (hr 9 (by decide)).trans rfl
        exact hold_run (v := .pointer (some ⟨w1.heap.size, 1, none⟩)) (by clear hn hr hK; generalize a.eval = ρ at *; simp [execOp, e9, go_sem]) rfl rfl hH hK
      refine StepAll.cons ?_ ?_
      · refine HoldStepB.val (by decide) fun a wx γ hn hr hres hpre Ss hH K hK => ?_
        have e47 : a.eval (.tmp 47) = .pointer (some ⟨w1.heap.size, 1, none⟩) := hn 1 (by decide) 47 rfl
        have hk := Hd.nthk 1 hH.rear rfl
        have c0 := (cell_of_heap hk 1).trans (show _ = some (.int .i64 gk) from rfl)
        clear hk
        exact hold_run (v := .int .i64 gk) (by clear hn hr hK; generalize a.eval = ρ at *; simp [execOp, e47, c0, go_sem]) rfl rfl hH hK
      refine StepAll.cons ?_ ?_
      · refine HoldStepB.fil 6 (by decide) fun a wx γ hn hr hres hpre Ss hH K hK => ?_
        have e6 : a.eval (.tmp 6) = .pointer (some ⟨(w.heap.size + 1), 0, none⟩) := (hr 6 (by decide)).trans rfl
        have e46 : a.eval (.tmp 46) = .agg #[.int .i64 ik, .int .i64 ie, .int .u64 nx, .int .u64 bt, .slice ad' es'.length cap'] := hn 0 (by decide) 46 rfl
        have hH2 : Hd W wx (Blk (w.heap.size + 1) (.cells #[.int .i64 0, .int .i64 0, .int .u64 0, .int .u64 0, .slice none 0 0] 146 (0, 0)) :: (Ss ++ (Blk w.heap.size (.cells #[.int .i64 ik, .int .i64 ie, .int .u64 nx, .int .u64 bt, .slice ad' es'.length cap'] 146 (0, 0)) :: Blk w1.heap.size (.cells #[.int .i64 ga, .int .i64 gk, .int .u64 t1, .int .u64 t2] 182 (0, 0)) :: CaR (.slice ad' es'.length cap') es' :: CaR (.slice ad es.length cap) es :: Rs))) := hH
        have hk := hH2.blk
        have c0 := (cell_of_heap hk 0).trans (show _ = some (.int .i64 0) from rfl)
        have c1 := (cell_of_heap hk 1).trans (show _ = some (.int .i64 0) from rfl)
        have c2 := (cell_of_heap hk 2).trans (show _ = some (.int .u64 0) from rfl)
        have c3 := (cell_of_heap hk 3).trans (show _ = some (.int .u64 0) from rfl)
        have c4 := (cell_of_heap hk 4).trans (show _ = some (.slice none 0 0) from rfl)
        have cf := frozen_of_heap hk
        clear hk hH
        exact hold_filB (w' := (((((wx.setCell ⟨(w.heap.size + 1), 0, none⟩ (.int .i64 ik)).setCell ⟨(w.heap.size + 1), 1, none⟩ (.int .i64 ie)).setCell ⟨(w.heap.size + 1), 2, none⟩ (.int .u64 nx)).setCell ⟨(w.heap.size + 1), 3, none⟩ (.int .u64 bt)).setCell ⟨(w.heap.size + 1), 4, none⟩ (.slice ad' es'.length cap'))) (by clear hn hr hK hH2; generalize a.eval = ρ at *; simp [execOp, e6, e46, c0, c1, c2, c3, c4, cf, go_sem]) rfl rfl (((((hH2.set 0 (.int .i64 ik)).set 1 (.int .i64 ie)).set 2 (.int .u64 nx)).set 3 (.int .u64 bt)).set 4 (.slice ad' es'.length cap')) hK
      refine StepAll.cons ?_ ?_
      · refine HoldStepB.val (by decide) fun a wx γ hn hr hres hpre Ss hH K hK => ?_
        have e48 : a.eval (.tmp 48) = .int .i64 gk := hn 2 (by decide) 48 rfl
        exact hold_run (v := .int .i64 gk) (by clear hn hr hK; generalize a.eval = ρ at *; simp [execOp, e48, go_sem]) rfl rfl hH hK
      refine StepAll.cons ?_ ?_
      · refine HoldStepB.val (by decide) fun a wx γ hn hr hres hpre Ss hH K hK => ?_
        have ec := evc a
        exact hold_run (v := .int .i64 0) (by clear hn hr hK; generalize a.eval = ρ at *; simp [execOp, ec, go_sem]) rfl rfl hH hK
      exact trivial
    case done9 =>
      intro f w9 g9 hv h9
      have er7 : f 7 = .int .i64 gk := hv 4 7 rfl
      have er8 : f 8 = .int .i64 0 := hv 5 8 rfl
      have hd : Hd W w9 (Blk (w.heap.size + 1) (.cells #[.int .i64 ik, .int .i64 ie, .int .u64 nx, .int .u64 bt, .slice ad' es'.length cap'] 146 (0, 0)) :: Blk w.heap.size (.cells #[.int .i64 ik, .int .i64 ie, .int .u64 nx, .int .u64 bt, .slice ad' es'.length cap'] 146 (0, 0)) :: Blk w1.heap.size (.cells #[.int .i64 ga, .int .i64 gk, .int .u64 t1, .int .u64 t2] 182 (0, 0)) :: CaR (.slice ad' es'.length cap') es' :: CaR (.slice ad es.length cap) es :: Rs) := h9
      clear hv h9 
      clear g9
      simp only [patchG, Nat.reduceAdd, Nat.reduceLeDiff, decide_true, decide_false, Bool.and_true, Bool.and_false, Bool.or_true, Bool.or_false, cond_true, cond_false, er7, er8]
      clear er7 er8
      clear H
      have H := hid hd
      clear hd
      have hk := Hd.nthk 0 H.out rfl
      have q0 := (cell_of_heap hk 0).trans (show _ = some (.int .i64 ik) from rfl)
      have q1 := (cell_of_heap hk 1).trans (show _ = some (.int .i64 ie) from rfl)
      have q2 := (cell_of_heap hk 2).trans (show _ = some (.int .u64 nx) from rfl)
      have q3 := (cell_of_heap hk 3).trans (show _ = some (.int .u64 bt) from rfl)
      have q4 := (cell_of_heap hk 4).trans (show _ = some (.slice ad' es'.length cap') from rfl)
      have qs := (Array.getElem?_eq_some_iff.1 hk).1
      clear hk
      go_wp2_with fail
      refine bodyPost_ret (v := .tuple #[.agg #[.int .i64 ik, .int .i64 ie, .int .u64 nx, .int .u64 bt, .slice ad' es'.length cap'], .int .i64 gk, .int .i64 0]) (by simp [results, Try.results68, go_sem, q0, q1, q2, q3, q4]) rfl ⟨_, _, rfl, fun _ => ?_, fun h => absurd rfl h⟩
      exact H.out.drop.drop.drop
  · rw [if_neg h3] at hq
    simp only [Prod.mk.injEq] at hq
    obtain ⟨rfl, rfl, rfl⟩ := hq
    have g1 : (t3 != 0) = true := by rw [bne_iff_ne]; exact h3
    have g2 : decide (t3 = 0) = false := by simpa using h3
    have HH3 := hid h3
    clear h3
    have hk := Hd.nthk 2 H.out rfl
    have c0 := (cell_of_heap hk 0).trans (show _ = some (.int .i64 ik) from rfl)
    have c1 := (cell_of_heap hk 1).trans (show _ = some (.int .i64 ie) from rfl)
    have c2 := (cell_of_heap hk 2).trans (show _ = some (.int .u64 nx) from rfl)
    have c3 := (cell_of_heap hk 3).trans (show _ = some (.int .u64 bt) from rfl)
    have c4 := (cell_of_heap hk 4).trans (show _ = some (.slice ad es.length cap) from rfl)
    have cs := (Array.getElem?_eq_some_iff.1 hk).1
    clear hk
    go_enter Try.func68, Try.ntmps68
    go_wp2_with fail
    refine (get16_is e HG.out hrs.out (by omega) H.out.ca H.out).mono ?_
    rintro e2 w1 ⟨rfl, h1⟩
    replace H := hid h1
    clear c0 c1 c2 c3 c4 cs hwo h1 HG
    go_wp2_with fail
    have HB := hid (H.out.bxk w1.heap.size rfl (o := .cells #[.int .i64 ga, .int .i64 gk, .int .u64 gx, .int .u64 gy] 182 (0, 0)))
    clear H
    refine (take14_calls (HGI.out (by first | rfl | trivial)) h0n h1n HT.out _).mono ?_
    rintro e2 w2 ⟨rfl, h1⟩
    have H := hid (HB.out.still h1)
    clear h1 HB HT HGI z1
    have hk := Hd.nthk 3 H.out rfl
    have c0 := (cell_of_heap hk 0).trans (show _ = some (.int .i64 ik) from rfl)
    have c1 := (cell_of_heap hk 1).trans (show _ = some (.int .i64 ie) from rfl)
    have c2 := (cell_of_heap hk 2).trans (show _ = some (.int .u64 nx) from rfl)
    have c3 := (cell_of_heap hk 3).trans (show _ = some (.int .u64 bt) from rfl)
    have c4 := (cell_of_heap hk 4).trans (show _ = some (.slice ad es.length cap) from rfl)
    have cs := (Array.getElem?_eq_some_iff.1 hk).1
    clear hk
    have hk := Hd.nthk 2 H.out rfl
    have q0 := (cell_of_heap hk 0).trans (show _ = some (.int .i64 0) from rfl)
    have q1 := (cell_of_heap hk 1).trans (show _ = some (.int .i64 0) from rfl)
    have q2 := (cell_of_heap hk 2).trans (show _ = some (.int .u64 0) from rfl)
    have q3 := (cell_of_heap hk 3).trans (show _ = some (.int .u64 0) from rfl)
    have q4 := (cell_of_heap hk 4).trans (show _ = some (.slice none 0 0) from rfl)
    have qs := (Array.getElem?_eq_some_iff.1 hk).1
    have qf := frozen_of_heap hk
    clear hk
    go_wp2_with fail
    refine bodyPost_ret (v := .tuple #[.agg #[.int .i64 ik, .int .i64 ie, .int .u64 nx, .int .u64 bt, .slice ad es.length cap], .int .i64 0, .int .i64 t3]) (by simp [results, Try.results68, go_sem, q0, q1, q2, q3, q4, qs]) rfl ⟨_, _, rfl, fun h => absurd h HH3.out, fun _ => ⟨by first | rfl | trivial, by first | rfl | trivial, by first | rfl | trivial, ?_⟩⟩
    first
      | exact ((((((((((H.out.front 3 rfl).front 2 rfl).front 2 rfl).front 3 rfl).set 0 (.int .i64 ik)).set 1 (.int .i64 ie)).set 2 (.int .u64 nx)).set 3 (.int .u64 bt)).set 4 (.slice ad es.length cap))).drop.un2.un2.al
      | exact ((((((((((H.out.al.front 3 rfl).front 2 rfl).front 2 rfl).front 3 rfl).set 0 (.int .i64 ik)).set 1 (.int .i64 ie)).set 2 (.int .u64 nx)).set 3 (.int .u64 bt)).set 4 (.slice ad es.length cap))).drop.un2.un2
end
end Go.Proofs.Ytpcfmafokkffgaa
