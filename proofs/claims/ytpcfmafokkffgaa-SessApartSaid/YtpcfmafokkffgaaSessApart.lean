/-
  A walk through the statement SessApart. For every text and every number below 256.
-/
import Derived.Test.YtpcfmafokkffgaaZ12
namespace Go.Proofs.Ytpcfmafokkffgaa
open Go.RowKit

def pl4 : List T := (put 20000 pl3 ⟨2, ⟨#[]⟩, 1099511627776, 0, 0, 0⟩).2.2
theorem pl4_put : put 20000 pl3 ⟨2, ⟨#[]⟩, 1099511627776, 0, 0, 0⟩ = (4, 0, pl4) := Prod.ext (by decide +kernel) (Prod.ext (by decide +kernel) rfl)
theorem pl4_grow (g : Good pl3) : Grow pl3 pl4 1 := grow_put 20000 ⟨2, ⟨#[]⟩, 1099511627776, 0, 0, 0⟩ g
theorem pl4_non : Non pl4 4 := ⟨1099511627776, ⟨by decide +kernel, by decide +kernel, by decide +kernel⟩⟩
theorem pl4_len : pl4.length = 4 := by decide +kernel

/-- Another session. -/
theorem apart_bad {L : List T} {h s r v c D h' : Int} {t : ByteArray} (g : Good L) (hl : 4 ≤ L.length) (hh : 1 ≤ h ∧ h ≤ 4) (hC : Non L r) (hD : Non L D) (hs : Sl L D h' 0 0 t c) (hne : ¬ (D = r ∧ h' = h)) (hroom : L.length + 9 ≤ 20000) :
    ∃ L', open19 20000 L (se0 h s r v) 0 0 c = ((⟨#[]⟩, 9), se0 h s r v, L') ∧ Grow L L' 9 := by
  have hv : Rv L r (se0 h s r v).rc := ⟨Int.le_refl 0, rfl, fun z hz => by simp [se0] at hz⟩
  have h0 := (recv_now (m := 20000) (n := 0) hC hv rfl (by omega)).1
  refine ⟨_, open_bad g hC hD (at_getT hh.1 (by have := hh.2; simp; omega)).getT.2 (se0_ok _ _ _ _) hv hs (fun e => hne ⟨e.1, e.2.1⟩) (by decide) (by decide) (by decide) h0, ?_⟩
  exact grow_recv 20000 0 0 _ g
theorem apart_self {L : List T} {x y : Se} {c : Int} {t : ByteArray} (G : Good2 L x y) (hx : x.rc = (se0 1 2 3 1).rc) (hs : Sl L 2 1 0 0 t c) (hroom : L.length + 9 ≤ 20000) :
    ∃ L', open19 20000 L x 0 0 c = ((⟨#[]⟩, 9), x, L') ∧ Grow L L' 9 := by
  have h0 := (recv_now (m := 20000) (n := 0) G.nd G.xr (by rw [hx]; rfl) (by omega)).1
  rw [show x.rc.ie = 0 by rw [hx]; rfl] at h0
  refine ⟨_, open_bad G.g G.nd G.nc (by rw [G.xs.h]; exact (at_getT (i := 1) (by decide) (by have := G.le; omega)).getT.2) G.xo G.xr hs (fun e => absurd e.1 (by decide)) (by decide) (by decide) (by decide) h0, ?_⟩
  exact grow_recv 20000 0 0 _ G.g
theorem apart_first {L : List T} {x : Se} (G : Good2 L x (se0 1 3 2 1)) (hroom : L.length + 9 ≤ 20000) :
    (recv19 20000 L (se0 1 3 2 1).rc 0 0).2.2.1 = 0 ∧ (recv19 20000 L (se0 1 3 2 1).rc 0 0).1 = ⟨2, 0, 1, 1, []⟩ := by
  obtain ⟨h1, h2⟩ := recv_now (m := 20000) (n := 0) G.nc G.yr rfl (by omega)
  exact ⟨h1, h2⟩
theorem apart_next {L : List T} {x y : Se} (G : Good2 L x y) (hy : y.rc = ⟨2, 0, 1, 1, []⟩) (hroom : L.length + 9 ≤ 20000) : (recv19 20000 L y.rc 0 1).2.2.1 = 0 := by
  have h0 := (recv_now (m := 20000) (n := 1) G.nc G.yr (by rw [hy]; rfl) (by omega)).1
  rw [show y.rc.ie = 0 by rw [hy]] at h0
  exact h0

theorem of19_se0 {w : World} {p b : Nat} {h s r v : Int} {sl : Value} (hp : w.heap[p]? = some (seO b (se0 h s r v) sl)) :
    Calls Try.prog 46 #[.pointer (some ⟨p, 0, none⟩)] w fun e' w' => e' = .returned (.agg #[.int .i64 h, .int .i64 s, .int .i64 r, .int .i64 v]) ∧ Below w.heap.size w w' := of19_calm hp

set_option maxRecDepth 100000 in
set_option maxHeartbeats 16000000 in
theorem sessApart_walk (s : ByteArray) (x1 : Int) (b1 : 0 ≤ x1) (_b1' : x1 ≤ 255) (W : World) (hsz : s.size ≤ maxLen) :
    Calls Try.prog 15 #[.string s, .int .u8 x1] W fun e w' => e = .returned (.bool true) ∧ Below W.heap.size W w' := by
  have hsz9 := hsz
  unfold maxLen at hsz9
  clear hsz
  obtain ⟨r, hr1⟩ : ∃ r, x1.tmod 2 = r := ⟨_, rfl⟩
  have hr2 : 0 ≤ r ∧ r ≤ 1 := by rw [← hr1, Int.tmod_eq_emod_of_nonneg b1]; omega
  have z1 : IntKind.u8.wrap r = r := IntWalk.u8_in _ (by omega)
  have z2 : IntKind.i64.wrap ((0 : Int) + 1) = 1 := by decide
  clear b1
  obtain ⟨tx, htx⟩ : ∃ tx, s.extract 0 (min (s.size : Int) 100).toNat = tx := ⟨_, rfl⟩
  have hts : tx.size ≤ 100 := by rw [← htx, ByteArray.size_extract]; omega
  have TS := hid hts
  have TX := hid htx
  clear hts htx
  by_cases he : r = 0
  case pos =>
    have e1 : (r == 0) = true := by simpa using he
    have q1 := eqt_Se 4 3 2 1
    clear he hr2
    go_enter Try.func15, Try.ntmps15
    go_wp2_with fail
    refine (pair_two (W := W)).mono ?_
    rintro e w1 ⟨b, pa, pb, rfl, h1⟩
    have TW := hid h1
    have G := hid ((good2_start h1.good).later (pl4_grow h1.good))
    clear h1
    go_wp2_with fail
    refine (put_two 2 ⟨#[]⟩ 1099511627776 0 0 0 pl4_put TW.out).mono ?_
    rintro e w2 ⟨rfl, h1⟩
    clear TW
    obtain ⟨p, hp⟩ : ∃ p, w2.heap.size = p := ⟨_, rfl⟩
    have HP := hid hp
    have TW : Hid (Two W (w2.alloc (.cells #[.int .i64 4, .int .i64 3, .int .i64 2, .int .i64 1] 72 (0, 0))) b pa pb (se0 1 2 3 1) (se0 1 3 2 1) pl4 20000 [Blk p (.cells #[.int .i64 4, .int .i64 3, .int .i64 2, .int .i64 1] 72 (0, 0))]) := hid (h1.boxk p hp)
    clear h1
    go_wp2_with fail
    refine (new_two (hh := 4) (s := 3) (r := 2) (v := 1) (by decide +kernel) TW.out).mono ?_
    rintro e w3 ⟨po, rfl, h1⟩
    clear TW
    have TW := hid h1
    clear h1
    go_wp2_with fail
    rw [TX.out]
    refine (seal_g (s := tx) (by have := TS.out; omega) (by decide) (by rw [pl4_len]; decide) G.out TW.out).mono ?_
    rw [show (se0 1 2 3 1).oe = 0 from rfl, show (se0 1 2 3 1).sent = 0 from rfl]
    rintro e w4 ⟨c, L1, rfl, h1, h2, h3, h4, h5⟩
    clear TW
    have TW := hid h1
    have G4 := hid (pl4_non.ext h4)
    have G1 := hid h2
    have C := hid (show Sl L1 2 1 0 0 tx c from h3)
    have N1 := hid (show L1.length ≤ 7 from h5)
    have N4 := hid (show 4 ≤ L1.length from h4.len)
    clear h1 h2 h3 h4 h5 G
    go_wp2_with fail
    obtain ⟨L2, hq2, hg2⟩ := apart_bad (h := 4) (s := 3) (r := 2) (v := 1) G1.out.g N4.out (by decide) G1.out.nc G1.out.nc C.out (by decide) (by have := N1.out; omega)
    have HQ2 := hid hq2
    have HG2 := hid hg2
    clear hq2 hg2
    refine (open_third (z := se0 4 3 2 1) (se0_ok _ _ _ _) rfl (by decide) (by decide) (by decide) (by decide) HQ2.out TW.out).mono ?_
    rintro e w5 ⟨v5, rfl, h1⟩
    clear TW
    have TW := hid h1
    have G2 := hid (G1.out.later HG2.out)
    have C2 := hid (C.out.ext HG2.out.1)
    have N2 := hid (show L2.length ≤ 16 by have := HG2.out.2.2; have := N1.out; omega)
    clear h1 HQ2 HG2 G1 C
    go_wp2_with fail
    obtain ⟨L3, hq3, hg3⟩ := apart_self G2.out rfl C2.out (by have := N2.out; omega)
    have HQ3 := hid hq3
    have HG3 := hid hg3
    clear hq3 hg3
    refine (open_two G2.out.xo (by decide) (by decide) (by decide) (by decide) HQ3.out TW.out).mono ?_
    rintro e w6 ⟨rfl, h1⟩
    clear TW
    have TW := hid h1
    have G3 := hid (G2.out.later HG3.out)
    have C3 := hid (C2.out.ext HG3.out.1)
    have N3 := hid (show L3.length ≤ 25 by have := HG3.out.2.2; have := N2.out; omega)
    clear h1 HQ3 HG3 G2 C2
    go_wp2_with fail
    have ha := apart_first G3.out (by have := N3.out; omega)
    have HA := hid ha
    clear ha
    refine (openl_g (t := tx) (e := 0) (n := 0) (by decide) (by decide) (by decide) C3.out HA.out.1 G3.out TW.out).mono ?_
    rw [HA.out.2]
    rintro e w7 ⟨L4, rfl, h1, h2, h3, h4⟩
    clear TW
    have TW := hid h1
    have G4' := hid h2
    have C4 := hid (C3.out.ext h3)
    have N5 := hid (show L4.length ≤ 34 by have := N3.out; omega)
    clear h1 h2 h3 h4 G3 C3 HA
    go_wp2_with fail
    refine (openb_g (e := 0) (n := 1) (by decide) (by decide) (by decide) (by decide) G4'.out.nc C4.out (by decide) (apart_next G4'.out rfl (by have := N5.out; omega)) G4'.out TW.out).mono ?_
    rintro e w8 ⟨L5, rfl, h1, h2, h3, h4⟩
    clear TW
    have TW := hid h1
    clear h1 h2 h3 h4 G4' C4
    have hk := TW.out.turn.blk
    have b0 : ∀ z : Later w8, z.w.cell? ⟨p, 0, none⟩ = some (.int .i64 4) := fun z => z.cell ((cell_of_heap hk 0).trans rfl)
    have b1 : ∀ z : Later w8, z.w.cell? ⟨p, 1, none⟩ = some (.int .i64 3) := fun z => z.cell ((cell_of_heap hk 1).trans rfl)
    have b2 : ∀ z : Later w8, z.w.cell? ⟨p, 2, none⟩ = some (.int .i64 2) := fun z => z.cell ((cell_of_heap hk 2).trans rfl)
    have b3 : ∀ z : Later w8, z.w.cell? ⟨p, 3, none⟩ = some (.int .i64 1) := fun z => z.cell ((cell_of_heap hk 3).trans rfl)
    have ho := TW.out.blk
    have HO := hid (fun z : Later w8 => (z.below.block po (Array.getElem?_eq_some_iff.1 ho).1).trans ho)
    clear hk ho
    go_wp2_with fail
    refine wp_region_calm (by kernel_rfl) (by kernel_rfl) ?_
    repeat (go_big_quiet_step ((first | (go_at_call 46; exact Calls.calm (of19_se0 (HO.out _))) | (go_at_call 47; exact Calls.calm (fixed19_calls _)))))
    refine wpQuiet_nil ?_
    intro wt hwt
    obtain ⟨⟨wt, hbt⟩, rfl⟩ := hwt
    replace TW := hid (TW.out.still hbt)
    clear b0 b1 b2 b3 hbt HO
    go_wp2_with fail
    go_ret
    exact ⟨rfl, TW.out.below⟩
  case neg =>
    have e1 : (r == 0) = false := by simpa using he
    have q1 := eqt_Se 1 3 4 1
    clear he hr2
    go_enter Try.func15, Try.ntmps15
    go_wp2_with fail
    refine (pair_two (W := W)).mono ?_
    rintro e w1 ⟨b, pa, pb, rfl, h1⟩
    have TW := hid h1
    have G := hid ((good2_start h1.good).later (pl4_grow h1.good))
    clear h1
    go_wp2_with fail
    refine (put_two 2 ⟨#[]⟩ 1099511627776 0 0 0 pl4_put TW.out).mono ?_
    rintro e w2 ⟨rfl, h1⟩
    clear TW
    obtain ⟨p, hp⟩ : ∃ p, w2.heap.size = p := ⟨_, rfl⟩
    have HP := hid hp
    have TW : Hid (Two W (w2.alloc (.cells #[.int .i64 1, .int .i64 3, .int .i64 4, .int .i64 1] 72 (0, 0))) b pa pb (se0 1 2 3 1) (se0 1 3 2 1) pl4 20000 [Blk p (.cells #[.int .i64 1, .int .i64 3, .int .i64 4, .int .i64 1] 72 (0, 0))]) := hid (h1.boxk p hp)
    clear h1
    go_wp2_with fail
    refine (new_two (hh := 1) (s := 3) (r := 4) (v := 1) (by decide +kernel) TW.out).mono ?_
    rintro e w3 ⟨po, rfl, h1⟩
    clear TW
    have TW := hid h1
    clear h1
    go_wp2_with fail
    rw [TX.out]
    refine (seal_g (s := tx) (by have := TS.out; omega) (by decide) (by rw [pl4_len]; decide) G.out TW.out).mono ?_
    rw [show (se0 1 2 3 1).oe = 0 from rfl, show (se0 1 2 3 1).sent = 0 from rfl]
    rintro e w4 ⟨c, L1, rfl, h1, h2, h3, h4, h5⟩
    clear TW
    have TW := hid h1
    have G4 := hid (pl4_non.ext h4)
    have G1 := hid h2
    have C := hid (show Sl L1 2 1 0 0 tx c from h3)
    have N1 := hid (show L1.length ≤ 7 from h5)
    have N4 := hid (show 4 ≤ L1.length from h4.len)
    clear h1 h2 h3 h4 h5 G
    go_wp2_with fail
    obtain ⟨L2, hq2, hg2⟩ := apart_bad (h := 1) (s := 3) (r := 4) (v := 1) G1.out.g N4.out (by decide) G4.out G1.out.nc C.out (by decide) (by have := N1.out; omega)
    have HQ2 := hid hq2
    have HG2 := hid hg2
    clear hq2 hg2
    refine (open_third (z := se0 1 3 4 1) (se0_ok _ _ _ _) rfl (by decide) (by decide) (by decide) (by decide) HQ2.out TW.out).mono ?_
    rintro e w5 ⟨v5, rfl, h1⟩
    clear TW
    have TW := hid h1
    have G2 := hid (G1.out.later HG2.out)
    have C2 := hid (C.out.ext HG2.out.1)
    have N2 := hid (show L2.length ≤ 16 by have := HG2.out.2.2; have := N1.out; omega)
    clear h1 HQ2 HG2 G1 C
    go_wp2_with fail
    obtain ⟨L3, hq3, hg3⟩ := apart_self G2.out rfl C2.out (by have := N2.out; omega)
    have HQ3 := hid hq3
    have HG3 := hid hg3
    clear hq3 hg3
    refine (open_two G2.out.xo (by decide) (by decide) (by decide) (by decide) HQ3.out TW.out).mono ?_
    rintro e w6 ⟨rfl, h1⟩
    clear TW
    have TW := hid h1
    have G3 := hid (G2.out.later HG3.out)
    have C3 := hid (C2.out.ext HG3.out.1)
    have N3 := hid (show L3.length ≤ 25 by have := HG3.out.2.2; have := N2.out; omega)
    clear h1 HQ3 HG3 G2 C2
    go_wp2_with fail
    have ha := apart_first G3.out (by have := N3.out; omega)
    have HA := hid ha
    clear ha
    refine (openl_g (t := tx) (e := 0) (n := 0) (by decide) (by decide) (by decide) C3.out HA.out.1 G3.out TW.out).mono ?_
    rw [HA.out.2]
    rintro e w7 ⟨L4, rfl, h1, h2, h3, h4⟩
    clear TW
    have TW := hid h1
    have G4' := hid h2
    have C4 := hid (C3.out.ext h3)
    have N5 := hid (show L4.length ≤ 34 by have := N3.out; omega)
    clear h1 h2 h3 h4 G3 C3 HA
    go_wp2_with fail
    refine (openb_g (e := 0) (n := 1) (by decide) (by decide) (by decide) (by decide) G4'.out.nc C4.out (by decide) (apart_next G4'.out rfl (by have := N5.out; omega)) G4'.out TW.out).mono ?_
    rintro e w8 ⟨L5, rfl, h1, h2, h3, h4⟩
    clear TW
    have TW := hid h1
    clear h1 h2 h3 h4 G4' C4
    have hk := TW.out.turn.blk
    have b0 : ∀ z : Later w8, z.w.cell? ⟨p, 0, none⟩ = some (.int .i64 1) := fun z => z.cell ((cell_of_heap hk 0).trans rfl)
    have b1 : ∀ z : Later w8, z.w.cell? ⟨p, 1, none⟩ = some (.int .i64 3) := fun z => z.cell ((cell_of_heap hk 1).trans rfl)
    have b2 : ∀ z : Later w8, z.w.cell? ⟨p, 2, none⟩ = some (.int .i64 4) := fun z => z.cell ((cell_of_heap hk 2).trans rfl)
    have b3 : ∀ z : Later w8, z.w.cell? ⟨p, 3, none⟩ = some (.int .i64 1) := fun z => z.cell ((cell_of_heap hk 3).trans rfl)
    have ho := TW.out.blk
    have HO := hid (fun z : Later w8 => (z.below.block po (Array.getElem?_eq_some_iff.1 ho).1).trans ho)
    clear hk ho
    go_wp2_with fail
    refine wp_region_calm (by kernel_rfl) (by kernel_rfl) ?_
    repeat (go_big_quiet_step ((first | (go_at_call 46; exact Calls.calm (of19_se0 (HO.out _))) | (go_at_call 47; exact Calls.calm (fixed19_calls _)))))
    refine wpQuiet_nil ?_
    intro wt hwt
    obtain ⟨⟨wt, hbt⟩, rfl⟩ := hwt
    replace TW := hid (TW.out.still hbt)
    clear b0 b1 b2 b3 hbt HO
    go_wp2_with fail
    go_ret
    exact ⟨rfl, TW.out.below⟩
end Go.Proofs.Ytpcfmafokkffgaa
