/-
  TermOnce returns true, and writes nothing that was there. For every input.
-/
import Derived.Test.YtfhpgcgiogmlgaaOwn
import Derived.Test.YtfhpgcgiogmlgaaArgsC
import Derived.Test.YtfhpgcgiogmlgaaPureD
import Derived.Test.YtfhpgcgiogmlgaaLawB
namespace Go.Proofs.Ytfhpgcgiogmlgaa
open Go.RowKit

/-- Each name is that of its term, or 0. -/
def NamesOf (L : List T) (ns : List Int) (ts : List T) : Prop := ∀ (r : Nat) (t : T), r < ns.length → ts[r]? = some t → ns.getD r 0 = 0 ∨ At L (ns.getD r 0) t.cut

theorem NamesOf.snoc {L L2 : List T} {ns : List Int} {ts : List T} {a : Int} {t : T} (h : NamesOf L ns ts) (e : Ext L L2) (ht : ts[ns.length]? = some t) (ha : a = 0 ∨ At L2 a t.cut) : NamesOf L2 (ns ++ [a]) ts := by
  intro r u hr hu
  by_cases hlt : r < ns.length
  · have e1 : (ns ++ [a]).getD r 0 = ns.getD r 0 := by simp [List.getD, List.getElem?_append_left hlt]
    rw [e1]
    exact (h r u hlt hu).imp id fun h => h.ext e
  · obtain rfl : r = ns.length := by simp at hr; omega
    have e1 : (ns ++ [a]).getD ns.length 0 = a := by simp [List.getD]
    rw [e1]
    rw [ht] at hu
    obtain rfl := Option.some.inj hu
    exact ha
theorem NamesOf.ext {L L2 : List T} {ns : List Int} {ts : List T} (h : NamesOf L ns ts) (e : Ext L L2) : NamesOf L2 ns ts := fun r t hr ht => (h r t hr ht).imp id fun h => h.ext e

theorem put_two {m : Int} {L : List T} (t : T) (g : Good L) (hr : (L.length : Int) < m) : put m L t = (0, 1, L) ∨ ∃ i L', put m L t = (i, 0, L') ∧ At L' i t ∧ Ext L L' ∧ Good L' ∧ L'.length ≤ L.length + 1 := by
  by_cases hm : t.may L.length
  · exact .inr (put_ok g hm hr)
  · exact .inl (put_bad hm)

set_option maxRecDepth 100000 in
set_option maxHeartbeats 32000000 in
theorem termOnce_walk (ad : Option Addr) (len cap : Nat) (ts : List T) (W : World) (hlen : len = ts.length) (hmax : len ≤ maxLen) (hts : TermsIn W ad ts) :
    Calls Try.prog 4 #[.slice ad len cap] W fun e w' => e = .returned (.bool true) ∧ Below W.heap.size W w' := by
  have Hlen := hid hlen
  have Hts := hid hts
  clear hts hlen
  unfold maxLen at hmax
  go_enter Try.func4, Try.ntmps4
  go_wp2_with fail
  refine (new_calls (Hd.refl W) (by decide) (by decide)).mono ?_
  rintro e w1 ⟨b, rfl, h1⟩
  have H0 := hid h1
  clear h1
  go_wp2_with fail
  go_loopw [5, 6] (fun v i wr => ∃ j : Nat, j ≤ len ∧ j ≤ 40 ∧ i = .int .i64 j ∧ ∃ (L : List T) (ns : List Int) (c : Nat) (a : Option Addr), v = .slice a j c ∧ Hid (L.length ≤ j) ∧ Hid (j = ns.length) ∧ Hid (NamesOf L ns ts) ∧ Hid (Hd W wr [RowR 3 1 (.slice a j c) j (nums .i64 ns), Sto b L 1000])) (fun _ i _ => len - (intOf i).toNat)
  case atStart => exact ⟨0, Nat.zero_le _, Nat.zero_le _, rfl, [], [], 0, _, rfl, hid (Nat.le_refl _), hid rfl, hid (fun r t hr _ => by simp at hr), hid H0.out.row_new⟩
  case round =>
    clear H0
    obtain ⟨j, hj, hj40, rfl, L, ns, c, a0, rfl, HLj, Hn, Hna, H⟩ := hrel
    obtain ⟨wo, rfl⟩ : ∃ wo : World, wo = wr := ⟨_, rfl⟩
    by_cases hlt : j < len ∧ j < 40
    · skip
      have hd1 : decide (j < len) = true := by simpa using hlt.1
      have hd2 : decide ((j : Int) < 40) = true := by simp; omega
      have hj41 : j < 40 := hlt.2
      obtain ⟨t, ht⟩ : ∃ t, ts[j]? = some t := ⟨ts[j]'(by rw [← Hlen.out]; exact hlt.1), List.getElem?_eq_getElem _⟩
      obtain ⟨g, o, rfl, hsz, hcell⟩ := (Hts.out.later H.out.below) j t ht
      have Ht := hid ht
      obtain ⟨k, s, n, a, b2, cc⟩ := t
      have c0 := hcell 0 _ rfl
      have c1 := hcell 1 _ rfl
      have c2 := hcell 2 _ rfl
      have c3 := hcell 3 _ rfl
      have c4 := hcell 4 _ rfl
      have c5 := hcell 5 _ rfl
      simp only [Nat.add_zero] at c0
      have hj0 : (0 : Int) ≤ (j : Int) := by omega
      have hj1 : (j : Int) < (len : Int) := by omega
      clear hcell ht hlt
      go_wp2_with fail
      refine (cut_calls k s n a b2 cc _ hsz).mono ?_
      obtain ⟨k1, s1, n1, a1, b1, c1', hcut⟩ : ∃ k1 s1 n1 a1 b1 c1, T.cut ⟨k, s, n, a, b2, cc⟩ = ⟨k1, s1, n1, a1, b1, c1⟩ := ⟨_, _, _, _, _, _, rfl⟩
      rw [hcut]
      have Hcut := hid hcut
      simp only [T.val]
      rintro e w3 ⟨rfl, hb3⟩
      replace H := hid (((H.out.still hb3).box (.cells #[.int .i64 k1, .string s1, .int .u64 n1, .int .i64 a1, .int .i64 b1, .int .i64 c1'] 32)).third)
      clear hb3 c0 c1 c2 c3 c4 c5 hcut hsz
      go_wp2_with fail
      skip
      refine (put_calls k1 s1 n1 a1 b1 c1' H.out).mono ?_
      obtain ⟨lb, db, mb, lc, dc, hs⟩ := H.out.sto
      have hg := hs.good
      clear hs
      rcases put_two (m := 1000) ⟨k1, s1, n1, a1, b1, c1'⟩ hg (by have := HLj.out; omega) with hq | ⟨r1, L2, hq, hat, hext, hg2, hl2⟩
      · skip
        rw [hq]
        have Hq := hid hq
        clear hq hg
        rintro e w4 ⟨rfl, h4⟩
        replace H := hid h4
        clear h4
        have hk0 := H.out.swap.blk
        have d0 := (cell_of_heap hk0 0).trans (show _ = some (.int .i64 k1) from rfl)
        have d1 := (cell_of_heap hk0 1).trans (show _ = some (.string s1) from rfl)
        have d2 := (cell_of_heap hk0 2).trans (show _ = some (.int .u64 n1) from rfl)
        have d3 := (cell_of_heap hk0 3).trans (show _ = some (.int .i64 a1) from rfl)
        have d4 := (cell_of_heap hk0 4).trans (show _ = some (.int .i64 b1) from rfl)
        have d5 := (cell_of_heap hk0 5).trans (show _ = some (.int .i64 c1') from rfl)
        clear hk0
        go_wp2_with fail
        refine (put_calls k1 s1 n1 a1 b1 c1' H.out).mono ?_
        rw [Hq.out]
        rintro e w5 ⟨rfl, h5⟩
        replace H := hid h5.third
        clear h5 Hq d0 d1 d2 d3 d4 d5
        obtain ⟨i0, hi0, hz0, hs0, hy0⟩ := info_int
        have Hi0 := hid hi0
        have Hz0 := hid hz0
        have Hs0 := hid hs0
        have Hy0 := hid hy0
        clear hi0 hz0 hs0 hy0
        go_wp2_with (at_builtin; refine append_num (k := .i64) Try.underlying45 Hi0.out Hz0.out Hs0.out Hy0.out (by decide) rfl (.tmp 53) (.tmp 55) rfl H.out (by rfl) 0 (by rfl) (by omega) ?_; intro g3 c3 w6 h6; have hk0 := h6.third.blk; have d0 := (cell_of_heap hk0 0).trans (show _ = some (.int .i64 k1) from rfl); have d1 := (cell_of_heap hk0 1).trans (show _ = some (.string s1) from rfl); have d2 := (cell_of_heap hk0 2).trans (show _ = some (.int .u64 n1) from rfl); have d3 := (cell_of_heap hk0 3).trans (show _ = some (.int .i64 a1) from rfl); have d4 := (cell_of_heap hk0 4).trans (show _ = some (.int .i64 b1) from rfl); have d5 := (cell_of_heap hk0 5).trans (show _ = some (.int .i64 c1') from rfl); clear hk0)
        have H6 := hid h6.third
        clear h6 H
        refine (parts_calls k1 s1 n1 a1 b1 c1' _).mono ?_
        rintro e w7 ⟨ap, rfl, hn7⟩
        have Hn7 := hid hn7
        replace H6 := hid (H6.out.still hn7.below)
        clear hn7 d0 d1 d2 d3 d4 d5
        go_wp2_with fail
        go_loop [13] (fun i => i = .int .i64 0) (fun _ => 0)
        case atStart => rfl
        case round =>
          subst hrel
          go_wp2_with fail
          go_loopw [14] (fun i wr => ∃ r : Nat, r ≤ j ∧ i = .int .i64 r ∧ Hid (Below w7.heap.size w7 wr)) (fun i _ => j - (intOf i).toNat)
          case atStart => exact ⟨0, Nat.zero_le _, rfl, hid (Below.refl _ _)⟩
          case round =>
            obtain ⟨r, hr, rfl, Hb⟩ := hrel
            by_cases hrl : r < j
            · skip
              have e1 : decide (r < j) = true := by simpa using hrl
              go_wp2_with fail
              refine wp_region_calm (by kernel_rfl) (by kernel_rfl) ?_
              repeat (go_big_quiet_step (fail))
              refine wpQuiet_nil ?_
              intro w8 hw8
              obtain ⟨⟨w8, hb8⟩, rfl⟩ := hw8
              go_wp2_with fail
              go_roundw
              case rel => exact ⟨r + 1, by omega, by go_num, hid (Hb.out.trans (hb8.mono Hb.out.size))⟩
              case measure => simp [intOf]; omega
            · skip
              obtain rfl : r = j := by omega
              have e1 : decide (r < r) = false := by simp
              go_wp2_with fail
              go_roundw
              case rel => exact ⟨r + 1, by omega, by omega, by go_num, L, ns ++ [0], c3, _, rfl, hid (by have := HLj.out; omega), hid (by simp; exact Hn.out), hid (Hna.out.snoc (Ext.refl L) (by rw [← Hn.out]; exact Ht.out) (.inl rfl)), hid (H6.out.still Hb.out).drop⟩
              case measure => simp [intOf]; omega
      · skip
        rw [hq]
        have Hq := hid hq
        have Hq2 := hid (put_known (m := 1000) hg2 hat)
        have Hat := hid hat
        have He := hid hext
        have HL2 := hid hl2
        have Hg2 := hid hg2
        have hr1 := hat.lo
        have hr2 := hat.hi
        clear hat hext hl2 hg2
        clear hq hg
        rintro e w4 ⟨rfl, h4⟩
        replace H := hid h4
        clear h4
        have hk0 := H.out.swap.blk
        have d0 := (cell_of_heap hk0 0).trans (show _ = some (.int .i64 k1) from rfl)
        have d1 := (cell_of_heap hk0 1).trans (show _ = some (.string s1) from rfl)
        have d2 := (cell_of_heap hk0 2).trans (show _ = some (.int .u64 n1) from rfl)
        have d3 := (cell_of_heap hk0 3).trans (show _ = some (.int .i64 a1) from rfl)
        have d4 := (cell_of_heap hk0 4).trans (show _ = some (.int .i64 b1) from rfl)
        have d5 := (cell_of_heap hk0 5).trans (show _ = some (.int .i64 c1') from rfl)
        clear hk0
        go_wp2_with fail
        refine (put_calls k1 s1 n1 a1 b1 c1' H.out).mono ?_
        rw [Hq2.out]
        rintro e w5 ⟨rfl, h5⟩
        replace H := hid h5.third
        clear h5 Hq Hq2 d0 d1 d2 d3 d4 d5
        obtain ⟨i0, hi0, hz0, hs0, hy0⟩ := info_int
        have Hi0 := hid hi0
        have Hz0 := hid hz0
        have Hs0 := hid hs0
        have Hy0 := hid hy0
        clear hi0 hz0 hs0 hy0
        go_wp2_with (at_builtin; refine append_num (k := .i64) Try.underlying45 Hi0.out Hz0.out Hs0.out Hy0.out (by decide) rfl (.tmp 53) (.tmp 55) rfl H.out (by rfl) r1 (by rfl) (by omega) ?_; intro g3 c3 w6 h6; have hk0 := h6.third.blk; have d0 := (cell_of_heap hk0 0).trans (show _ = some (.int .i64 k1) from rfl); have d1 := (cell_of_heap hk0 1).trans (show _ = some (.string s1) from rfl); have d2 := (cell_of_heap hk0 2).trans (show _ = some (.int .u64 n1) from rfl); have d3 := (cell_of_heap hk0 3).trans (show _ = some (.int .i64 a1) from rfl); have d4 := (cell_of_heap hk0 4).trans (show _ = some (.int .i64 b1) from rfl); have d5 := (cell_of_heap hk0 5).trans (show _ = some (.int .i64 c1') from rfl); clear hk0)
        have H6 := hid h6.third
        clear h6 H
        refine (parts_calls k1 s1 n1 a1 b1 c1' _).mono ?_
        rintro e w7 ⟨ap, rfl, hn7⟩
        have Hn7 := hid hn7
        replace H6 := hid (H6.out.still hn7.below)
        clear hn7 d0 d1 d2 d3 d4 d5
        have hpl := parts_length ⟨k1, s1, n1, a1, b1, c1'⟩
        simp only at hpl
        have hq3 := many_le k1
        have hpr : ∀ r : Nat, r < many k1 → 1 ≤ (T.parts ⟨k1, s1, n1, a1, b1, c1'⟩).getD r 0 ∧ (T.parts ⟨k1, s1, n1, a1, b1, c1'⟩).getD r 0 < r1 ∧ depth L2 ((T.parts ⟨k1, s1, n1, a1, b1, c1'⟩).getD r 0) < depth L2 r1 := fun r hr => by
          have hm : (T.parts ⟨k1, s1, n1, a1, b1, c1'⟩).getD r 0 ∈ T.parts ⟨k1, s1, n1, a1, b1, c1'⟩ := by simp only [List.getD]; rw [List.getElem?_eq_getElem (by rw [hpl]; exact hr)]; exact List.getElem_mem _
          have h1 := Hat.out.part Hg2.out hm
          have h2 := part_less Hg2.out Hat.out.is hm
          rw [show ((((r1 - 1).toNat : Nat) : Int) + 1) = r1 by omega] at h2
          exact ⟨h1.1, h1.2, h2⟩
        have Hpr := hid hpr
        obtain ⟨ps, hps⟩ : ∃ ps, T.parts ⟨k1, s1, n1, a1, b1, c1'⟩ = ps := ⟨_, rfl⟩
        rw [hps] at Hn7 Hpr hpl
        have Hpl := hid hpl
        clear hpr hpl hps
        generalize many k1 = q at *
        go_wp2_with fail
        obtain ⟨dr, hdr⟩ : ∃ dr, depth L2 r1 = dr := ⟨_, rfl⟩
        rw [hdr] at Hpr
        have Hdr := hid hdr
        clear hdr
        go_loopw [13] (fun i wr => ∃ r : Nat, r ≤ q ∧ i = .int .i64 r ∧ Hid (Below w7.heap.size w7 wr)) (fun i _ => q - (intOf i).toNat)
        case atStart => exact ⟨0, Nat.zero_le _, rfl, hid (Below.refl _ _)⟩
        case round =>
          obtain ⟨r, hr, rfl, Hb⟩ := hrel
          have Hi := hid (H6.out.still Hb.out)
          by_cases hrq : r < q
          · skip
            have e1 : decide (r < q) = true := by simpa using hrq
            obtain ⟨p1, p2, p3⟩ := Hpr.out r hrq
            obtain ⟨gp, op, rfl, hcp⟩ := (Hn7.out.at).resolve_left (fun e => by have := Hpl.out; rw [e] at this; simp at this; omega)
            have c0 := (Hb.out.cell (p := ⟨gp, op + r, none⟩) (World.block_lt_of_cell? _ _ (hcp r (by rw [Hpl.out]; exact hrq)))).trans (hcp r (by rw [Hpl.out]; exact hrq))
            generalize ps.getD r 0 = pp at *
            obtain ⟨dp, hdp⟩ : ∃ dp, depth L2 pp = dp := ⟨_, rfl⟩
            rw [hdp] at p3
            have f1 : decide (r1 ≤ pp) = false := by simp; omega
            have f2 : decide (pp < 1) = false := by simp; omega
            have f3 : decide (dr ≤ dp) = false := by simp; omega
            obtain ⟨lb, db, mb, lc, dc, hs⟩ := Hi.out.third.sto
            have y1 := depth_calls pp hs
            have y2 := depth_calls r1 hs
            rw [hdp] at y1
            rw [Hdr.out] at y2
            have Y1 := hid y1
            have Y2 := hid y2
            have hr0 : (0 : Int) ≤ (r : Int) := by omega
            have hr9 : (r : Int) < (q : Int) := by omega
            clear hdp y1 y2 hs hcp
            go_wp2_with fail
            refine Y1.out.mono ?_
            rintro e w' ⟨rfl, rfl⟩
            go_wp2_with fail
            refine Y2.out.mono ?_
            rintro e w' ⟨rfl, rfl⟩
            go_wp2_with fail
            go_roundw
            case rel => exact ⟨r + 1, by omega, by go_num, Hb⟩
            case measure => simp [intOf]; omega
          · skip
            have e1 : decide (r < q) = false := by simpa using hrq
            replace H6 := Hi
            clear Hi Hb Hpr Hpl Hn7
            obtain ⟨wi, rfl⟩ : ∃ wi : World, wi = wr := ⟨_, rfl⟩
            go_wp2_with fail
            go_loopw [14] (fun i wr => ∃ r : Nat, r ≤ j ∧ i = .int .i64 r ∧ Hid (Below wi.heap.size wi wr)) (fun i _ => j - (intOf i).toNat)
            case atStart => exact ⟨0, Nat.zero_le _, rfl, hid (Below.refl _ _)⟩
            case round =>
              obtain ⟨r, hr, rfl, Hb⟩ := hrel
              have Hi := hid (H6.out.still Hb.out)
              by_cases hrl : r < j
              · skip
                have e1 : decide (r < j) = true := by simpa using hrl
                obtain ⟨u, hu⟩ : ∃ u, ts[r]? = some u := ⟨ts[r]'(by rw [← Hlen.out]; omega), List.getElem?_eq_getElem _⟩
                obtain ⟨g4, o4, e4, hsz, hcell⟩ := Hts.out r u hu
                simp only [Option.some.injEq, Addr.mk.injEq, and_true] at e4
                obtain ⟨rfl, rfl⟩ := e4
                have hnm := (Hna.out.ext He.out) r u (by rw [← Hn.out]; exact hrl) hu
                obtain ⟨g2, c9, he, d6⟩ := Hi.out.swap.row_cell (nums_get (k := .i64) (zs := ns ++ [r1]) (j := r) (by simp; rw [← Hn.out]; omega))
                simp only [Value.slice.injEq, Option.some.injEq, Addr.mk.injEq, and_true, true_and] at he
                obtain ⟨rfl, rfl⟩ := he
                rw [show (ns ++ [r1]).getD r 0 = ns.getD r 0 by simp [List.getD, List.getElem?_append_left (show r < ns.length by rw [← Hn.out]; exact hrl)]] at d6
                generalize ns.getD r 0 = nm at *
                obtain ⟨uk, us, un, ua, ub, uc⟩ := u
                have q0 : ∀ x : Later wr, x.w.cell? ⟨g, o + r * 6, none⟩ = some (.int .i64 uk) := fun x => by
                  have hc := hcell 0 _ rfl
                  simp only [Nat.add_zero] at hc
                  exact ((Hi.out.still x.below).below.cell (World.block_lt_of_cell? W _ hc)).trans hc
                have q1 : ∀ x : Later wr, x.w.cell? ⟨g, o + r * 6 + 1, none⟩ = some (.string us) := fun x => by
                  have hc := hcell 1 _ rfl
                  skip
                  exact ((Hi.out.still x.below).below.cell (World.block_lt_of_cell? W _ hc)).trans hc
                have q2 : ∀ x : Later wr, x.w.cell? ⟨g, o + r * 6 + 2, none⟩ = some (.int .u64 un) := fun x => by
                  have hc := hcell 2 _ rfl
                  skip
                  exact ((Hi.out.still x.below).below.cell (World.block_lt_of_cell? W _ hc)).trans hc
                have q3 : ∀ x : Later wr, x.w.cell? ⟨g, o + r * 6 + 3, none⟩ = some (.int .i64 ua) := fun x => by
                  have hc := hcell 3 _ rfl
                  skip
                  exact ((Hi.out.still x.below).below.cell (World.block_lt_of_cell? W _ hc)).trans hc
                have q4 : ∀ x : Later wr, x.w.cell? ⟨g, o + r * 6 + 4, none⟩ = some (.int .i64 ub) := fun x => by
                  have hc := hcell 4 _ rfl
                  skip
                  exact ((Hi.out.still x.below).below.cell (World.block_lt_of_cell? W _ hc)).trans hc
                have q5 : ∀ x : Later wr, x.w.cell? ⟨g, o + r * 6 + 5, none⟩ = some (.int .i64 uc) := fun x => by
                  have hc := hcell 5 _ rfl
                  skip
                  exact ((Hi.out.still x.below).below.cell (World.block_lt_of_cell? W _ hc)).trans hc
                have q6 : ∀ x : Later wr, x.w.cell? ⟨g3, r, none⟩ = some (.int .i64 nm) := fun x => x.cell d6
                have hk0 := Hi.out.blk
                have d0 : ∀ x : Later wr, x.w.cell? ⟨w3.heap.size, 0, none⟩ = some (.int .i64 k1) := fun x => x.cell (by rw [cell_of_heap hk0]; rfl)
                have d1 : ∀ x : Later wr, x.w.cell? ⟨w3.heap.size, 1, none⟩ = some (.string s1) := fun x => x.cell (by rw [cell_of_heap hk0]; rfl)
                have d2 : ∀ x : Later wr, x.w.cell? ⟨w3.heap.size, 2, none⟩ = some (.int .u64 n1) := fun x => x.cell (by rw [cell_of_heap hk0]; rfl)
                have d3 : ∀ x : Later wr, x.w.cell? ⟨w3.heap.size, 3, none⟩ = some (.int .i64 a1) := fun x => x.cell (by rw [cell_of_heap hk0]; rfl)
                have d4 : ∀ x : Later wr, x.w.cell? ⟨w3.heap.size, 4, none⟩ = some (.int .i64 b1) := fun x => x.cell (by rw [cell_of_heap hk0]; rfl)
                have d5 : ∀ x : Later wr, x.w.cell? ⟨w3.heap.size, 5, none⟩ = some (.int .i64 c1') := fun x => x.cell (by rw [cell_of_heap hk0]; rfl)
                clear hk0
                obtain ⟨vk, vs, vn, va, vb, vc, hcv⟩ : ∃ k1 s1 n1 a1 b1 c1, T.cut ⟨uk, us, un, ua, ub, uc⟩ = ⟨k1, s1, n1, a1, b1, c1⟩ := ⟨_, _, _, _, _, _, rfl⟩
                have HC : Hid (∀ x : Later wr, Calls Try.prog 17 #[.agg #[.int .i64 uk, .string us, .int .u64 un, .int .i64 ua, .int .i64 ub, .int .i64 uc]] x.w fun e w' => e = .returned (.agg #[.int .i64 vk, .string vs, .int .u64 vn, .int .i64 va, .int .i64 vb, .int .i64 vc]) ∧ Below x.w.heap.size x.w w') := hid fun x => by { have := cut_calls uk us un ua ub uc x.w hsz; rw [hcv] at this; exact this }
                rw [hcv] at hnm
                have hr0 : (0 : Int) ≤ (r : Int) := by omega
                have hr9 : (r : Int) < (len : Int) := by omega
                have hr8 : (r : Int) < (j : Int) + 1 := by omega
                have f1 : decide (0 < r1) = true := by simp; omega
                have heq : ∀ w, (binOp .eql 32 (.agg #[.int .i64 vk, .string vs, .int .u64 vn, .int .i64 va, .int .i64 vb, .int .i64 vc]) (.agg #[.int .i64 k1, .string s1, .int .u64 n1, .int .i64 a1, .int .i64 b1, .int .i64 c1'])).run Try.prog w = .ok (.bool (decide ((⟨vk, vs, vn, va, vb, vc⟩ : T) = ⟨k1, s1, n1, a1, b1, c1'⟩))) w := fun w => eql_T ⟨vk, vs, vn, va, vb, vc⟩ ⟨k1, s1, n1, a1, b1, c1'⟩ w
                clear hu hcell hsz hcv d6
                by_cases hut : (⟨vk, vs, vn, va, vb, vc⟩ : T) = ⟨k1, s1, n1, a1, b1, c1'⟩
                · skip
                  rw [decide_eq_true hut] at heq
                  rcases hnm with rfl | hnm
                  · skip
                    have f2 : ((0 : Int) == r1) = false := by simp; omega
                    clear hut
                    go_wp2_with fail
                    refine wp_region_calm (by kernel_rfl) (by kernel_rfl) ?_
                    repeat (go_big_quiet_step ((go_at_call 17; exact Calls.calm (HC.out _))))
                    refine wpQuiet_nil ?_
                    intro w8 hw8
                    obtain ⟨⟨w8, hb8⟩, rfl⟩ := hw8
                    clear q0 q1 q2 q3 q4 q5 q6 d0 d1 d2 d3 d4 d5 heq
                    go_wp2_with fail
                    go_roundw
                    case rel => exact ⟨r + 1, by omega, by go_num, hid (Hb.out.trans (hb8.mono Hb.out.size))⟩
                    case measure => simp [intOf]; omega
                  · skip
                    have hnr : nm = r1 := by rw [hut] at hnm; exact hnm.name Hg2.out Hat.out
                    subst hnr
                    clear hut hnm
                    go_wp2_with fail
                    refine wp_region_calm (by kernel_rfl) (by kernel_rfl) ?_
                    repeat (go_big_quiet_step ((go_at_call 17; exact Calls.calm (HC.out _))))
                    refine wpQuiet_nil ?_
                    intro w8 hw8
                    obtain ⟨⟨w8, hb8⟩, rfl⟩ := hw8
                    clear q0 q1 q2 q3 q4 q5 q6 d0 d1 d2 d3 d4 d5 heq
                    go_wp2_with fail
                    go_roundw
                    case rel => exact ⟨r + 1, by omega, by go_num, hid (Hb.out.trans (hb8.mono Hb.out.size))⟩
                    case measure => simp [intOf]; omega
                · skip
                  rw [decide_eq_false hut] at heq
                  have f2 : (nm == r1) = false := by
                    rw [beq_eq_false_iff_ne]
                    intro e
                    rcases hnm with rfl | hnm
                    · omega
                    · subst e; exact hut (hnm.same Hat.out)
                  clear hut hnm
                  go_wp2_with fail
                  refine wp_region_calm (by kernel_rfl) (by kernel_rfl) ?_
                  repeat (go_big_quiet_step ((go_at_call 17; exact Calls.calm (HC.out _))))
                  refine wpQuiet_nil ?_
                  intro w8 hw8
                  obtain ⟨⟨w8, hb8⟩, rfl⟩ := hw8
                  clear q0 q1 q2 q3 q4 q5 q6 d0 d1 d2 d3 d4 d5 heq
                  go_wp2_with fail
                  go_roundw
                  case rel => exact ⟨r + 1, by omega, by go_num, hid (Hb.out.trans (hb8.mono Hb.out.size))⟩
                  case measure => simp [intOf]; omega
              · skip
                obtain rfl : r = j := by omega
                have e1 : decide (r < r) = false := by simp
                go_wp2_with fail
                go_roundw
                case rel => exact ⟨r + 1, by omega, by omega, by go_num, L2, ns ++ [r1], c3, _, rfl, hid (by have := HLj.out; have := HL2.out; omega), hid (by simp; exact Hn.out), hid (Hna.out.snoc He.out (by rw [← Hn.out]; exact Ht.out) (.inr (by rw [Hcut.out]; exact Hat.out))), hid (H6.out.still Hb.out).drop⟩
                case measure => simp [intOf]; omega
    · skip
      have hex : decide (j < len) = false ∨ (decide (j < len) = true ∧ decide ((j : Int) < 40) = false) := by
        by_cases h : j < len
        · right; exact ⟨by simpa using h, by simp; omega⟩
        · left; simpa using h
      clear hlt
      rcases hex with hd1 | ⟨hd1, hd2⟩
      all_goals
        go_wp2_with fail
        refine (fixed2_calls H.out).mono ?_
        rintro e w' ⟨rfl, h5⟩
        have H5 := hid h5
        clear h5
        go_wp2_with fail
        go_ret
        exact ⟨rfl, H5.out.below⟩
end Go.Proofs.Ytfhpgcgiogmlgaa
